/-
  Proved here: the statement RegexBack (stackyardlaw07), out of the walk of its function.
-/
import Derived.Test.YtjdhkopjigijfaaRows
import Derived.Test.YtjdhkopjigijfaaN
import Derived.Test.YtjdhkopjigijfaaN2
import Derived.Test.YtjdhkopjigijfaaXyb
import Derived.ProofKit
import Derived.OpenShut
import Derived.ChangeMaps5
set_option maxHeartbeats 4000000
set_option linter.unusedSimpArgs false
set_option linter.unusedVariables false
namespace Go.Proofs.Ytjdhkopjigijfaa.regexBack
open Go.ChangeShapes Go.WideShapes Go.RowKit Go.ChangeMaps
theorem own : ownKnob Try.prog.godebug = none := by kernel_rfl
theorem laidOut : laidOutB Try.prog = true := by kernel_rfl
section
variable {H : Type} {enc : TypeId × Value → H} {w : World}
theorem reach_le {n b : Nat} (h : n * b ≤ reachBytes) (hb : 8 ≤ b) : n ≤ 17592186044416 := by
  have h1 : n * 8 ≤ n * b := Nat.mul_le_mul_left n hb
  have h2 : reachBytes = 140737488351232 := rfl
  omega
theorem SRd.str {N : Nat} {t : TypeId} (ht : Try.prog.underlying t = some .string) : SRd H enc Try.prog w N t fun vs => ∃ s : ByteArray, vs = [.str s] := fun fuel _ cs x hx _ => by
  obtain ⟨s, rfl, _⟩ := DataW.trod_string ht hx
  exact ⟨_, ⟨s, rfl⟩, RLs_one (by rw [RL])⟩
theorem r_regex : ∀ N, SRd H enc Try.prog w N 25 fun vs => ∃ x : Rx, rxV x = .agg vs ∧ x.Sm
  | 0 => SRd.zero
  | N + 1 => SRd.struct Try.underlying25 F.ti25.h (ps := [(1, _), (1, _), (1, _)]) ⟨rfl, F.ti22.h.cells, SRd.int Try.underlying22, rfl, F.ti9.h.cells, SRd.str Try.underlying9, rfl, F.ti23.h.cells,
      (SRd.slice (f := rxV) (q := fun x => x.Sm) Try.underlying23 F.ti25.h (by decide) (r_regex N) fun vs h => by obtain ⟨x, h1, h2⟩ := h; exact ⟨x, h2, .inl h1⟩).mono (Nat.le_succ N), rfl⟩ fun vss h => by
    obtain _ | ⟨v0, _ | ⟨v1, _ | ⟨v2, _ | ⟨v3, vs⟩⟩⟩⟩ := vss <;> simp only [AllLs, and_false] at h
    obtain ⟨⟨a0, rfl⟩, ⟨a1, rfl⟩, ⟨a2, rfl, h2, h3⟩, _⟩ := h
    exact ⟨.mk a0 a1 a2, rxV_eq _, .mk (reach_le h2 (by decide)) h3⟩

end
/-- A struct that came in is a row of cells. -/
theorem okWide_agg {P : Program} {W : World} {base : Nat} {t : TypeId} {fs : Array Field} {v : Value} (ht : P.underlying t = some (.struct fs)) (h : Value.okWide P W .any base t v) : ∃ cs, v = .agg cs := by
  unfold Value.okWide at h
  rw [ht] at h
  obtain ⟨cs, h, _⟩ := h
  exact ⟨cs, h⟩
/-- A law's function that answers true, called: what is asked of the row's walk. -/
theorem law_calls {P : Program} {f : FuncId} {args : List V} {W : World} {cs : List Value} (h : FnC P f args fun r => r = .bool true) (hc : VRs P W (InW W) (fun _ _ => none) args cs) : Calls P f cs.toArray W fun e W' => e = .returned (.bool true) ∧ Below W.heap.size W W' := by
  refine (h W (InW W) cs (fun p hp => by simp [globTab] at hp) (fun _ h => h) hc).mono ?_
  rintro e W' ⟨v, r, S', rfl, h1, _, _, h2, rfl⟩
  have h3 : RL P W' S' (.bool true) v := h2
  rw [RL] at h3
  exact ⟨by rw [h3], h1⟩
set_option maxRecDepth 100000 in
theorem lifted (os : Os) (started : os.Started) (H : Type) (enc : TypeId × Value → H) :
    ReturnsInHanded {} Try.checked os 5 .any (Rows.regexBackSpec.pre6 enc Try.prog Try.f5 Rows.regexBackRow.domain false) (Rows.regexBackSpec.post enc Try.prog Try.f5 false true false false) := by
  refine returnsInHanded_of_change_sized (C := Try.checked) own started (by kernel_rfl) Try.func5
    (ChangeSpec.witness6 (enc := enc) (C := Try.checked) false ⟨#[], #[.agg #[.int .i64 0, .string ⟨#[]⟩, .slice none 0 0]], []⟩ 8 (by kernel_rfl) (by kernel_rfl) (by kernel_rfl) (by kernel_rfl)) ?_
  intro W base args ds gs before hval0 hW hcnd hsz _
  have hval : ∀ (j : Nat) t v, Try.f5.params[j]? = some t → args[j]? = some v → Value.okWide Try.prog W .any base t v := hval0
  have hW' := hW
  obtain ⟨p, q, hA0, hV, rfl, hfz, hnd⟩ := hW
  have hA : DataW.TrodAll enc Try.prog W 0 (fun _ => true) true Try.f5.params.toList args.toList ds p := hA0
  rw [Try.params5] at hA hval hsz
  obtain ⟨v0, vs0, d0, ds0, p0, q0, hargs, rfl, rfl, h0, r0⟩ := trodAll_cons hA
  obtain ⟨rfl, rfl, rfl⟩ := trodAll_nil r0
  obtain rfl : args = #[v0] := by cases args; simp_all
  obtain ⟨rfl, rfl⟩ := trodVars_none hV
  obtain ⟨c0, rfl⟩ := okWide_agg Try.underlying25 (hval 0 25 v0 rfl rfl)
  have lt0 : ∀ x ∈ p0, x.block < W.heap.size := by obtain ⟨m, hm⟩ := h0; exact DataW.trod_lt m _ _ _ hm
  have sz0 : SizedD Try.prog 25 d0 := sized_arg (j := 0) hsz rfl rfl
  obtain ⟨u0, ⟨a0, e0, sm0⟩, g0⟩ := SRd.arg r_regex h0 sz0
  rw [← e0, rxV_eq] at g0
  clear hA0 hval0
  refine (law_calls (regexBack a0 sm0) (cs := [.agg c0]) ?_).mono fun e W' ⟨he, bel⟩ => ?_
  · rw [VRs]; exact ⟨g0, by simp [VRs]⟩
  · subst he
    exact ⟨_, rfl, _, _, _, [], _, [], hW', trodAll_mk1 (shut_bool Try.underlying4 _), (trodAll_cons_mk (Below.trod laidOut (by kernel_rfl) (of_decide_eq_true (by kernel_rfl)) h0 bel lt0) trodAll_mk0), rfl, bel.frame _, fun h => by cases h⟩
theorem over : Rows.regexBackRow.holds Try.pinned (OpenSpec.ofChange Rows.regexBackSpec) :=
  OpenClaim.holds_of_wide 5 Try.f5 rfl rfl rfl rfl rfl rfl rfl ⟨rfl, rfl, rfl, rfl, rfl⟩ rfl rfl rfl rfl rfl (by kernel_rfl) Try.func5 (by kernel_rfl)
    (of_decide_eq_true (by kernel_rfl)) (by unfold Func.isWrapper; first | (rw [if_pos (by decide +kernel)]; kernel_rfl) | (rw [if_neg (by decide +kernel)]; exact ⟨rfl, rfl⟩))
    (fun os started H enc _ => lifted os started H enc)
end Go.Proofs.Ytjdhkopjigijfaa.regexBack
namespace Go.Proofs.Ytjdhkopjigijfaa
/-- The statement. -/
theorem regexBack_holds : Rows.RegexBackSaid := regexBack.over
end Go.Proofs.Ytjdhkopjigijfaa
