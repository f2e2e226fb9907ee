/-
  Proved here: the statement EncodeMakes (stackyardlaw23), out of the walk of its function.
-/
import Derived.Test.YtfjciangbmjlmaaRows
import Derived.Test.YtfjciangbmjlmaaN
import Derived.Test.YtfjciangbmjlmaaHl
import Derived.ProofKit
import Derived.OpenShut
set_option linter.unusedSimpArgs false
set_option linter.unusedVariables false
namespace Go.Proofs.Ytfjciangbmjlmaa.encodeMakes
open Go.ChangeShapes Go.WideShapes Go.RowKit
theorem own : ownKnob Try.prog.godebug = none := by kernel_rfl
theorem laidOut : laidOutB Try.prog = true := by kernel_rfl
section
variable {H : Type} {enc : TypeId × Value → H} {w : World}
theorem r_int : RLeaf H enc Try.prog w 3 fun v => ∃ n : Int, v = iV n := RLeaf.int Try.underlying3
theorem r_ints : RLeaf H enc Try.prog w 23 fun v => ∃ l : List Int, v = .sl 3 (l.map iV) := RLeaf.slice (f := iV) Try.underlying23 F.ti3 (by decide) r_int.any
theorem r_strs : RLeaf H enc Try.prog w 22 fun v => ∃ l : List ByteArray, v = .sl 9 (l.map .str) := RLeaf.slice (f := V.str) Try.underlying22 F.ti9 (by decide) (RLeaf.str Try.underlying9).any
theorem r_step : RAny H enc Try.prog w 50 fun v => ∃ s : Step, v = stepV s :=
  RAny.struct Try.underlying50 F.ti50 rfl (ps := [_, _, _, _, _, _, _]) ⟨rfl, F.ti3.cells, r_int, rfl, F.ti3.cells, r_int, rfl, F.ti48.cells, RLeaf.int Try.underlying48, rfl, F.ti3.cells, r_int, rfl, F.ti3.cells, r_int, rfl, F.ti2.cells, RLeaf.int Try.underlying2, rfl, F.ti3.cells, r_int, trivial⟩ fun vs h => by
    obtain _ | ⟨v0, _ | ⟨v1, _ | ⟨v2, _ | ⟨v3, _ | ⟨v4, _ | ⟨v5, _ | ⟨v6, _ | ⟨v7, vs⟩⟩⟩⟩⟩⟩⟩⟩ := vs <;> simp only [AllP, and_false] at h
    obtain ⟨⟨a0, rfl⟩, ⟨a1, rfl⟩, ⟨a2, rfl⟩, ⟨a3, rfl⟩, ⟨a4, rfl⟩, ⟨a5, rfl⟩, ⟨a6, rfl⟩, _⟩ := h
    exact ⟨⟨a0, a1, a2, a3, a4, a5, a6⟩, rfl⟩
theorem r_site : RAny H enc Try.prog w 54 fun v => ∃ s : Site, v = siteV s :=
  RAny.struct Try.underlying54 F.ti54 rfl (ps := [_, _, _, _]) ⟨rfl, F.ti9.cells, RLeaf.str Try.underlying9, rfl, F.ti3.cells, r_int, rfl, F.ti3.cells, r_int, rfl, F.ti3.cells, r_int, trivial⟩ fun vs h => by
    obtain _ | ⟨v0, _ | ⟨v1, _ | ⟨v2, _ | ⟨v3, _ | ⟨v4, vs⟩⟩⟩⟩⟩ := vs <;> simp only [AllP, and_false] at h
    obtain ⟨⟨a0, rfl⟩, ⟨a1, rfl⟩, ⟨a2, rfl⟩, ⟨a3, rfl⟩, _⟩ := h
    exact ⟨⟨a0, a1, a2, a3⟩, rfl⟩
theorem r_point : RAny H enc Try.prog w 121 fun v => ∃ s : Point, v = pointV s :=
  RAny.struct Try.underlying121 F.ti121 rfl (ps := [_, _]) ⟨rfl, F.ti9.cells, RLeaf.str Try.underlying9, rfl, F.ti3.cells, r_int, trivial⟩ fun vs h => by
    obtain _ | ⟨v0, _ | ⟨v1, _ | ⟨v2, vs⟩⟩⟩ := vs <;> simp only [AllP, and_false] at h
    obtain ⟨⟨a0, rfl⟩, ⟨a1, rfl⟩, _⟩ := h
    exact ⟨⟨a0, a1⟩, rfl⟩
theorem r_sink : RAny H enc Try.prog w 126 fun v => ∃ s : Sink, v = sinkV s :=
  RAny.struct Try.underlying126 F.ti126 rfl (ps := [_, _]) ⟨rfl, F.ti3.cells, r_int, rfl, F.ti3.cells, r_int, trivial⟩ fun vs h => by
    obtain _ | ⟨v0, _ | ⟨v1, _ | ⟨v2, vs⟩⟩⟩ := vs <;> simp only [AllP, and_false] at h
    obtain ⟨⟨a0, rfl⟩, ⟨a1, rfl⟩, _⟩ := h
    exact ⟨⟨a0, a1⟩, rfl⟩
theorem r_graph : RAny H enc Try.prog w 29 fun v => ∃ s : Graph, v = graphV s :=
  RAny.struct Try.underlying29 F.ti29 rfl (ps := [_, _, _, _, _, _, _, _, _, _])
    ⟨rfl, F.ti22.cells, r_strs, rfl, F.ti22.cells, r_strs, rfl, F.ti23.cells, r_ints, rfl, F.ti23.cells, r_ints, rfl, F.ti3.cells, r_int, rfl, F.ti23.cells, r_ints,
      rfl, F.ti24.cells, RLeaf.slice (f := stepV) Try.underlying24 F.ti50 (by decide) r_step, rfl, F.ti25.cells, RLeaf.slice (f := siteV) Try.underlying25 F.ti54 (by decide) r_site,
      rfl, F.ti26.cells, RLeaf.slice (f := pointV) Try.underlying26 F.ti121 (by decide) r_point, rfl, F.ti27.cells, RLeaf.slice (f := sinkV) Try.underlying27 F.ti126 (by decide) r_sink, trivial⟩ fun vs h => by
    obtain _ | ⟨v0, _ | ⟨v1, _ | ⟨v2, _ | ⟨v3, _ | ⟨v4, _ | ⟨v5, _ | ⟨v6, _ | ⟨v7, _ | ⟨v8, _ | ⟨v9, _ | ⟨v10, vs⟩⟩⟩⟩⟩⟩⟩⟩⟩⟩⟩ := vs <;> simp only [AllP, and_false] at h
    obtain ⟨⟨a0, rfl⟩, ⟨a1, rfl⟩, ⟨a2, rfl⟩, ⟨a3, rfl⟩, ⟨a4, rfl⟩, ⟨a5, rfl⟩, ⟨a6, rfl⟩, ⟨a7, rfl⟩, ⟨a8, rfl⟩, ⟨a9, rfl⟩, _⟩ := h
    exact ⟨⟨a0, a1, a2, a3, a4, a5, a6, a7, a8, a9⟩, rfl⟩

end
/-- A struct that came in is a row of cells. -/
theorem okWide_agg {P : Program} {W : World} {base : Nat} {t : TypeId} {fs : Array Field} {v : Value} (ht : P.underlying t = some (.struct fs)) (h : Value.okWide P W .any base t v) : ∃ cs, v = .agg cs := by
  unfold Value.okWide at h
  rw [ht] at h
  obtain ⟨cs, h, _⟩ := h
  exact ⟨cs, h⟩
/-- A law's function that answers true, called: what is asked of the row's walk. -/
theorem law_calls {P : Program} {f : FuncId} {args : List V} {W : World} {cs : List Value} (h : FnC P f args fun r => r = .bool true) (hc : VRs P W (InW W) (fun _ _ => none) args cs) : Calls P f cs.toArray W fun e W' => e = .returned (.bool true) ∧ Below W.heap.size W W' := by
  refine (h W (InW W) cs (fun _ h => h) hc).mono ?_
  rintro e W' ⟨v, r, S', rfl, h1, _, _, h2, rfl⟩
  have h3 : RL P W' S' (.bool true) v := h2
  rw [RL] at h3
  exact ⟨by rw [h3], h1⟩
set_option maxRecDepth 100000 in
theorem lifted (os : Os) (started : os.Started) (H : Type) (enc : TypeId × Value → H) :
    ReturnsInHanded {} Try.checked os 6 .any (Rows.encodeMakesSpec.pre6 enc Try.prog Try.f6 Rows.encodeMakesRow.domain false) (Rows.encodeMakesSpec.post enc Try.prog Try.f6 false true false false) := by
  refine returnsInHanded_of_change_sized (C := Try.checked) own started (by kernel_rfl) Try.func6
    (ChangeSpec.witness6 (enc := enc) (C := Try.checked) false ⟨#[], #[.agg #[.slice none 0 0, .slice none 0 0, .slice none 0 0, .slice none 0 0, .int .i64 0, .slice none 0 0, .slice none 0 0, .slice none 0 0, .slice none 0 0, .slice none 0 0], .int .i64 0, .int .i64 0], []⟩ 8 (by kernel_rfl) (by kernel_rfl) (by kernel_rfl) (by kernel_rfl)) ?_
  intro W base args ds gs before hval0 hW hcnd hsz0 _
  have hval : ∀ (j : Nat) t v, Try.f6.params[j]? = some t → args[j]? = some v → Value.okWide Try.prog W .any base t v := hval0
  have hW' := hW
  obtain ⟨p, q, hA0, hV, rfl, hfz, hnd⟩ := hW
  have hA : DataW.TrodAll enc Try.prog W 0 (fun _ => true) true Try.f6.params.toList args.toList ds p := hA0
  rw [Try.params6] at hA hval
  obtain ⟨v0, vs0, d0, ds0, p0, q0, hargs, rfl, rfl, h0, r0⟩ := trodAll_cons hA
  obtain ⟨v1, vs1, d1, ds1, p1, q1, rfl, rfl, rfl, h1, r1⟩ := trodAll_cons r0
  obtain ⟨v2, vs2, d2, ds2, p2, q2, rfl, rfl, rfl, h2, r2⟩ := trodAll_cons r1
  obtain ⟨rfl, rfl, rfl⟩ := trodAll_nil r2
  obtain rfl : args = #[v0, v1, v2] := by cases args; simp_all
  obtain ⟨rfl, rfl⟩ := trodVars_none hV
  obtain ⟨c0, rfl⟩ := okWide_agg Try.underlying29 (hval 0 29 v0 rfl rfl)
  have lt0 : ∀ x ∈ p0, x.block < W.heap.size := by obtain ⟨m, hm⟩ := h0; exact DataW.trod_lt m _ _ _ hm
  obtain ⟨u0, ⟨a0, rfl⟩, g0⟩ := r_graph.arg (fun u hu => by obtain ⟨s, rfl⟩ := hu; exact ⟨_, rfl⟩) h0
  obtain ⟨a1, rfl, rfl, rfl, w1⟩ := open_int Try.underlying3 (hval 1 3 v1 rfl rfl) h1
  obtain ⟨a2, rfl, rfl, rfl, w2⟩ := open_int Try.underlying3 (hval 2 3 v2 rfl rfl) h2
  clear hA0 hval0 hsz0
  refine (law_calls (encodeMakes a0 a1 a2) (cs := [.agg c0, .int .i64 a1, .int .i64 a2]) ?_).mono fun e W' ⟨he, bel⟩ => ?_
  · rw [VRs]; refine ⟨g0, ?_⟩
    rw [VRs]; refine ⟨(by rw [VR, RL]), ?_⟩
    rw [VRs]; exact ⟨(by rw [VR, RL]), by simp [VRs]⟩
  · subst he
    exact ⟨_, rfl, _, _, _, [], _, [], hW', trodAll_mk1 (shut_bool Try.underlying4 _), (trodAll_cons_mk (Below.trod laidOut (by kernel_rfl) (of_decide_eq_true (by kernel_rfl)) h0 bel lt0) (trodAll_cons_mk (shut_int Try.underlying3 w1) (trodAll_cons_mk (shut_int Try.underlying3 w2) trodAll_mk0))), rfl, bel.frame _, fun h => by cases h⟩
theorem over : Rows.encodeMakesRow.holds Try.pinned (OpenSpec.ofChange Rows.encodeMakesSpec) :=
  OpenClaim.holds_of_wide 6 Try.f6 rfl rfl rfl rfl rfl rfl rfl ⟨rfl, rfl, rfl, rfl, rfl⟩ rfl rfl rfl rfl rfl (by kernel_rfl) Try.func6 (by kernel_rfl)
    (of_decide_eq_true (by kernel_rfl)) (by unfold Func.isWrapper; first | (rw [if_pos (by decide +kernel)]; kernel_rfl) | (rw [if_neg (by decide +kernel)]; exact ⟨rfl, rfl⟩))
    (fun os started H enc _ => lifted os started H enc)
end Go.Proofs.Ytfjciangbmjlmaa.encodeMakes
namespace Go.Proofs.Ytfjciangbmjlmaa
/-- The statement. -/
theorem encodeMakes_holds : Rows.EncodeMakesSaid := encodeMakes.over
end Go.Proofs.Ytfjciangbmjlmaa
