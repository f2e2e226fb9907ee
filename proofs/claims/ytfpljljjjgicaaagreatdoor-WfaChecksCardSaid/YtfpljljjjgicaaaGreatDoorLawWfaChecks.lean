/-
  Proved here: the statement WfaChecks (stackyardlaw10), its tied card, out of the walk of its function.
-/
import Derived.Test.YtfpljljjjgicaaaGreatDoorRows
import Derived.Test.YtfpljljjjgicaaaGreatDoorCards
import Derived.Test.YtfpljljjjgicaaaGreatDoorTie
import Derived.Test.YtfpljljjjgicaaaGreatDoorNN
import Derived.Test.YtfpljljjjgicaaaGreatDoorSno
import Derived.ProofKit
import Derived.OpenShut
import Derived.LaidMore
import Derived.Lib.LaidTab
import Derived.Stop.Joined
import Derived.SevenTiedAt
set_option maxHeartbeats 4000000
set_option linter.unusedSimpArgs false
set_option linter.unusedVariables false
namespace Go.Proofs.YtfpljljjjgicaaaGreatDoor.wfaChecks
open Go.ChangeShapes Go.WideShapes Go.RowKit
theorem own : ownKnob Tryz.prog.godebug = none := by kernel_rfl
theorem laidOut : laidOutB Tryz.prog = true := by kernel_rfl
abbrev laidL : List (String × DataW Unit) := Rows.wfaChecksRow.laid
theorem gT : Tryz.prog.globalNamed "math/bits.deBruijn64tab" = some 0 := by kernel_rfl
theorem gTType : (Tryz.prog.globals[0]?).map (·.type) = some 201 := by kernel_rfl
theorem cT : Tryz.prog.cellsOf 201 = 64 := by kernel_rfl
theorem tab_eq : laidL = [("math/bits.deBruijn64tab", Lib.tabData .u8 [0, 1, 56, 2, 57, 49, 28, 3, 61, 58, 42, 50, 38, 29, 17, 4, 62, 47, 59, 36, 45, 43, 51, 22, 53, 39, 33, 30, 24, 18, 12, 5, 63, 55, 48, 27, 60, 41, 37, 16, 46, 35, 44, 21, 52, 32, 23, 11, 54, 26, 40, 15, 34, 20, 31, 10, 25, 14, 19, 9, 13, 8, 7, 6])] := rfl
theorem door_met (os : Os) (args : Array Value) : laidMetH Tryz.prog laidL ((World.doorLaid Tryz.prog 400 os).forCall (fun _ _ => 0) ⟨#[], args, []⟩).memory :=
  laidMetH_of_parts3 (fuel := 8) (laidMet_of_run' 8 (by kernel_rfl) (by kernel_rfl)) (by kernel_rfl) (by kernel_rfl)
/-- What the condition gives the walks: the table's cells. -/
theorem globs {W : World} (h : laidMetH Tryz.prog laidL W) : Globs W := by
  rw [MakeChecks.laidMetH_plain _ _ _ (by kernel_rfl)] at h
  have ht := Lib.tabIs_of_head gT gTType Tryz.underlying201 Tryz.underlying5 F.ti5.h.cells cT (tab_eq ▸ h)
  intro p hp
  simp only [globTab, List.mem_mapIdx] at hp
  obtain ⟨i, hi, rfl⟩ := hp
  have := ht.cell gT i hi
  rw [List.getD_eq_getElem?_getD, List.getElem?_eq_getElem hi] at this
  exact this
section
variable {H : Type} {enc : TypeId × Value → H} {w : World}
theorem reach_le {n b : Nat} (h : n * b ≤ reachBytes) (hb : 8 ≤ b) : n ≤ 17592186044416 := by
  have h1 : n * 8 ≤ n * b := Nat.mul_le_mul_left n hb
  have h2 : reachBytes = 140737488351232 := rfl
  omega
theorem r_int {N : Nat} : SRd H enc Tryz.prog w N 3 fun vs => ∃ n : Int, vs = [iV n] := SRd.int Tryz.underlying3
theorem r_ints {N : Nat} : SRd H enc Tryz.prog w (N + 1) 26 fun vs => ∃ l : List Int, vs = [.sl 3 (l.map iV)] ∧ l.length ≤ 17592186044416 ∧ ∀ a ∈ l, True :=
  (SRd.slice (f := iV) (q := fun _ => True) Tryz.underlying26 F.ti3.h (by decide) r_int fun vs h => by obtain ⟨n, rfl⟩ := h; exact ⟨n, trivial, .inr ⟨(fun l h => by cases h), rfl⟩⟩).imp fun vs h => by obtain ⟨l, h1, h2, h3⟩ := h; exact ⟨l, h1, reach_le h2 (by decide), h3⟩
theorem r_intsN : ∀ N, SRd H enc Tryz.prog w N 26 fun vs => ∃ l : List Int, vs = [.sl 3 (l.map iV)] ∧ l.length ≤ 17592186044416 ∧ ∀ a ∈ l, True
  | 0 => SRd.zero
  | _ + 1 => r_ints
theorem r_space : ∀ N, SRd H enc Tryz.prog w N 25 fun vs => ∃ s : Sp, spV s = .agg vs ∧ s.SmA
  | 0 => SRd.zero
  | N + 1 => SRd.struct Tryz.underlying25 F.ti25.h (ps := [(1, _), (1, _), (1, _)]) ⟨rfl, F.ti22.h.cells, SRd.int Tryz.underlying22, rfl, F.ti3.h.cells, r_int, rfl, F.ti23.h.cells,
      (SRd.slice (f := spV) (q := fun s => s.SmA) Tryz.underlying23 F.ti25.h (by decide) (r_space N) fun vs h => by obtain ⟨s, h1, h2⟩ := h; exact ⟨s, h2, .inl h1⟩).mono (Nat.le_succ N), rfl⟩ fun vss h => by
    obtain _ | ⟨v0, _ | ⟨v1, _ | ⟨v2, _ | ⟨v3, vs⟩⟩⟩⟩ := vss <;> simp only [AllLs, and_false] at h
    obtain ⟨⟨a0, rfl⟩, ⟨a1, rfl⟩, ⟨a2, rfl, h2, h6⟩, _⟩ := h
    exact ⟨.mk a0 a1 a2, spV_eq _, .mk (reach_le h2 (by decide)) h6⟩
theorem r_facts : ∀ N, SRd H enc Tryz.prog w N 33 fun vs => ∃ (g : BitVec 64) (r : List (BitVec 64)), vs = [bV g, .sl 30 (r.map bV)] ∧ r.length ≤ 17592186044416
  | 0 => SRd.zero
  | N + 1 => SRd.struct Tryz.underlying33 F.ti33.h (ps := [(1, _), (1, _)]) ⟨rfl, F.ti30.h.cells, SRd.u64 Tryz.underlying30, rfl, F.ti31.h.cells,
      (SRd.slice (f := bV) (q := fun _ => True) Tryz.underlying31 F.ti30.h (by decide) (SRd.u64 Tryz.underlying30) fun vs h => by obtain ⟨n, rfl⟩ := h; exact ⟨n, trivial, .inr ⟨(fun l h => by cases h), rfl⟩⟩).mono (Nat.le_succ N), rfl⟩ fun vss h => by
    obtain _ | ⟨v0, _ | ⟨v1, _ | ⟨v2, vs⟩⟩⟩ := vss <;> simp only [AllLs, and_false] at h
    obtain ⟨⟨a0, rfl⟩, ⟨a1, rfl, h2, _⟩, _⟩ := h
    exact ⟨a0, a1, rfl, reach_le h2 (by decide)⟩
theorem r_cell : ∀ N, SRd H enc Tryz.prog w N 90 fun vs => ∃ c : Cel, vs = celL c
  | 0 => SRd.zero
  | N + 1 => SRd.struct Tryz.underlying90 F.ti90.h (ps := [(1, _), (1, _), (1, _)]) ⟨rfl, F.ti30.h.cells, SRd.u64 Tryz.underlying30, rfl, F.ti88.h.cells, SRd.int Tryz.underlying88, rfl, F.ti2.h.cells, SRd.int Tryz.underlying2, rfl⟩ fun vss h => by
    obtain _ | ⟨v0, _ | ⟨v1, _ | ⟨v2, _ | ⟨v3, vs⟩⟩⟩⟩ := vss <;> simp only [AllLs, and_false] at h
    obtain ⟨⟨a0, rfl⟩, ⟨a1, rfl⟩, ⟨a2, rfl⟩, _⟩ := h
    exact ⟨⟨a0, a1, a2⟩, rfl⟩
theorem r_weight : ∀ N, SRd H enc Tryz.prog w N 37 fun vs => ∃ x : Wt, wtV x = .agg vs ∧ x.SmA
  | 0 => SRd.zero
  | N + 1 => SRd.struct Tryz.underlying37 F.ti37.h (ps := [(1, _), (1, _), (2, _), (1, _), (1, _)]) ⟨rfl, F.ti4.h.cells, SRd.bool Tryz.underlying4, rfl, F.ti3.h.cells, r_int, rfl, F.ti33.h.cells, r_facts N, rfl, F.ti34.h.cells,
      (SRd.slice (f := celV) (q := fun _ => True) Tryz.underlying34 F.ti90.h (by decide) (r_cell N) fun vs h => by obtain ⟨c, rfl⟩ := h; exact ⟨c, trivial, .inl rfl⟩).mono (Nat.le_succ N), rfl, F.ti35.h.cells,
      (SRd.slice (f := wtV) (q := fun x => x.SmA) Tryz.underlying35 F.ti37.h (by decide) (r_weight N) fun vs h => by obtain ⟨s, h1, h2⟩ := h; exact ⟨s, h2, .inl h1⟩).mono (Nat.le_succ N), rfl⟩ fun vss h => by
    obtain _ | ⟨v0, _ | ⟨v1, _ | ⟨v2, _ | ⟨v3, _ | ⟨v4, _ | ⟨v5, vs⟩⟩⟩⟩⟩⟩ := vss <;> simp only [AllLs, and_false] at h
    obtain ⟨⟨a0, rfl⟩, ⟨a1, rfl⟩, ⟨a2, a3, rfl, h3⟩, ⟨a4, rfl, h4, _⟩, ⟨a5, rfl, h5, h6⟩, _⟩ := h
    exact ⟨.mk a0 a1 a2 a3 a4 a5, wtV_eq _, .mk ⟨h3, reach_le h4 (by decide), reach_le h5 (by decide)⟩ h6⟩
theorem r_trans : ∀ N, SRd H enc Tryz.prog w N 39 fun vs => ∃ t : Trn, trV t = .agg vs ∧ t.w.SmA
  | 0 => SRd.zero
  | N + 1 => SRd.struct Tryz.underlying39 F.ti39.h (ps := [(1, _), (1, _), (1, _), (6, _)]) ⟨rfl, F.ti3.h.cells, r_int, rfl, F.ti3.h.cells, r_int, rfl, F.ti3.h.cells, r_int, rfl, F.ti37.h.cells, r_weight N, rfl⟩ fun vss h => by
    obtain _ | ⟨v0, _ | ⟨v1, _ | ⟨v2, _ | ⟨v3, _ | ⟨v4, vs⟩⟩⟩⟩⟩ := vss <;> simp only [AllLs, and_false] at h
    obtain ⟨⟨a0, rfl⟩, ⟨a1, rfl⟩, ⟨a2, rfl⟩, ⟨a3, h3, h4⟩, _⟩ := h
    rw [wtV_eq] at h3
    obtain rfl := V.agg.inj h3
    exact ⟨⟨a0, a1, a2, a3⟩, rfl, h4⟩
theorem r_auto : ∀ N, SRd H enc Tryz.prog w N 29 fun vs => ∃ a : Aut, autV a = .agg vs ∧ a.SmA
  | 0 => SRd.zero
  | N + 1 => SRd.struct Tryz.underlying29 F.ti29.h (ps := [(3, _), (1, _), (1, _), (1, _), (1, _)]) ⟨rfl, F.ti25.h.cells, r_space N, rfl, F.ti3.h.cells, r_int, rfl, F.ti3.h.cells, r_int, rfl, F.ti26.h.cells, r_intsN N, rfl, F.ti27.h.cells,
      (SRd.slice (f := trV) (q := fun t => t.w.SmA) Tryz.underlying27 F.ti39.h (by decide) (r_trans N) fun vs h => by obtain ⟨s, h1, h2⟩ := h; exact ⟨s, h2, .inl h1⟩).mono (Nat.le_succ N), rfl⟩ fun vss h => by
    obtain _ | ⟨v0, _ | ⟨v1, _ | ⟨v2, _ | ⟨v3, _ | ⟨v4, _ | ⟨v5, vs⟩⟩⟩⟩⟩⟩ := vss <;> simp only [AllLs, and_false] at h
    obtain ⟨⟨a0, h0, k0⟩, ⟨a1, rfl⟩, ⟨a2, rfl⟩, ⟨a3, rfl, h3, _⟩, ⟨a4, rfl, h4, h5⟩, _⟩ := h
    rw [spV_eq] at h0
    obtain rfl := V.agg.inj h0
    exact ⟨⟨a0, a1, a2, a3, a4⟩, rfl, ⟨k0, h3, reach_le h4 (by decide), h5⟩⟩
end
/-- A struct that came in is a row of cells. -/
theorem okWide_agg {P : Program} {W : World} {base : Nat} {t : TypeId} {fs : Array Field} {v : Value} (ht : P.underlying t = some (.struct fs)) (h : Value.okWide P W .any base t v) : ∃ cs, v = .agg cs := by
  unfold Value.okWide at h
  rw [ht] at h
  obtain ⟨cs, h, _⟩ := h
  exact ⟨cs, h⟩
/-- A law's function that answers true, called: what is asked of the row's walk. -/
theorem law_calls {P : Program} {f : FuncId} {args : List V} {W : World} {cs : List Value} (hG : Globs W) (h : FnC P f args fun r => r = .bool true) (hc : VRs P W (InW W) (fun _ _ => none) args cs) : Calls P f cs.toArray W fun e W' => e = .returned (.bool true) ∧ Below W.heap.size W W' := by
  refine (h W (InW W) cs hG (fun _ h => h) hc).mono ?_
  rintro e W' ⟨v, r, S', rfl, h1, _, _, h2, rfl⟩
  have h3 : RL P W' S' (.bool true) v := h2
  rw [RL] at h3
  exact ⟨by rw [h3], h1⟩
set_option maxRecDepth 100000 in
theorem lifted (os : Os) (started : os.Started) (H : Type) (enc : TypeId × Value → H) :
    ReturnsInHanded {} Tryz.checked os 7 .any (fun w args => (Rows.wfaChecksSpec.pre enc Tryz.prog Tryz.f7 [] false w args ∧ laidMetH Tryz.prog laidL w) ∧ sizedMet enc Tryz.prog Tryz.f7 (OpenSpec.ofChange Rows.wfaChecksSpec) false w args) (Rows.wfaChecksSpec.post enc Tryz.prog Tryz.f7 false true false false) := by
  refine returnsInHanded_of_change_and (C := Tryz.checked) (X := fun w _ => laidMetH Tryz.prog laidL w) (fun _ _ _ hh h => h.of_heap hh) own started (by kernel_rfl) Tryz.func7
    (ChangeSpec.witness_shaped (enc := enc) (C := Tryz.checked) (os := os) (X := fun w _ => laidMetH Tryz.prog laidL w) false (World.doorLaid Tryz.prog 400 os) #[.agg #[.int .i64 0, .int .i64 0, .slice none 0 0, .int .i64 0, .int .i64 0, .slice none 0 0, .slice none 0 0], .agg #[.int .i64 0, .int .i64 0, .slice none 0 0, .int .i64 0, .int .i64 0, .slice none 0 0, .slice none 0 0]] 8 rfl (World.shaped_of_RefB (by kernel_rfl) (by kernel_rfl)) (by kernel_rfl) (by kernel_rfl) (by kernel_rfl) (door_met os _)) ?_
  intro W base args ds gs before hval0 hW hcnd hsz hL _
  have hG := globs hL
  have hval : ∀ (j : Nat) t v, Tryz.f7.params[j]? = some t → args[j]? = some v → Value.okWide Tryz.prog W .any base t v := hval0
  have hW' := hW
  obtain ⟨p, q, hA0, hV, rfl, hfz, hnd⟩ := hW
  have hA : DataW.TrodAll enc Tryz.prog W 0 (fun _ => true) true Tryz.f7.params.toList args.toList ds p := hA0
  rw [Tryz.params7] at hA hval hsz
  obtain ⟨v0, vs0, d0, ds0, p0, q0, hargs, rfl, rfl, h0, r0⟩ := trodAll_cons hA
  obtain ⟨v1, vs1, d1, ds1, p1, q1, rfl, rfl, rfl, h1, r1⟩ := trodAll_cons r0
  obtain ⟨rfl, rfl, rfl⟩ := trodAll_nil r1
  obtain rfl : args = #[v0, v1] := by cases args; simp_all
  obtain ⟨rfl, rfl⟩ := trodVars_none hV
  obtain ⟨c0, rfl⟩ := okWide_agg Tryz.underlying29 (hval 0 29 v0 rfl rfl)
  have lt0 : ∀ x ∈ p0, x.block < W.heap.size := by obtain ⟨m, hm⟩ := h0; exact DataW.trod_lt m _ _ _ hm
  have sz0 : SizedD Tryz.prog 29 d0 := sized_arg (j := 0) hsz rfl rfl
  obtain ⟨u0, ⟨a0, e0, sm0⟩, g0⟩ := SRd.arg r_auto h0 sz0
  rw [← e0] at g0
  obtain ⟨c1, rfl⟩ := okWide_agg Tryz.underlying29 (hval 1 29 v1 rfl rfl)
  have lt1 : ∀ x ∈ p1, x.block < W.heap.size := by obtain ⟨m, hm⟩ := h1; exact DataW.trod_lt m _ _ _ hm
  have sz1 : SizedD Tryz.prog 29 d1 := sized_arg (j := 1) hsz rfl rfl
  obtain ⟨u1, ⟨a1, e1, sm1⟩, g1⟩ := SRd.arg r_auto h1 sz1
  rw [← e1] at g1
  clear hA0 hval0
  refine (law_calls hG (wfaChecks a0 a1 sm0 sm1) (cs := [.agg c0, .agg c1]) ?_).mono fun e W' ⟨he, bel⟩ => ?_
  · rw [VRs]; refine ⟨g0, ?_⟩
    rw [VRs]; exact ⟨g1, by simp [VRs]⟩
  · subst he
    exact ⟨_, rfl, _, _, _, [], _, [], hW', trodAll_mk1 (shut_bool Tryz.underlying4 _), (trodAll_cons_mk (Below.trod laidOut (by kernel_rfl) (of_decide_eq_true (by kernel_rfl)) h0 bel lt0) (trodAll_cons_mk (Below.trod laidOut (by kernel_rfl) (of_decide_eq_true (by kernel_rfl)) h1 bel lt1) trodAll_mk0)), rfl, bel.frame _, fun h => by cases h⟩
theorem over : Rows.wfaChecksRow.holds Tryz.pinned (OpenSpec.ofChange Rows.wfaChecksSpec) :=
  OpenClaim.holds_of_wide 7 Tryz.f7 rfl rfl rfl rfl rfl rfl rfl ⟨rfl, rfl, rfl, rfl, rfl⟩ rfl rfl rfl rfl rfl (by kernel_rfl) Tryz.func7 (by kernel_rfl)
    (of_decide_eq_true (by kernel_rfl)) (by unfold Func.isWrapper; first | (rw [if_pos (by decide +kernel)]; kernel_rfl) | (rw [if_neg (by decide +kernel)]; exact ⟨rfl, rfl⟩))
    (fun os started H enc _ => lifted os started H enc)
theorem carded : Claim7.holds Tryz.pinned (.plain (OpenSpec.ofChange Rows.wfaChecksSpec)) Rows.wfaChecksCard :=
  Claim7.holds_tied_plain_at .later [] [.data] true (true, "f0492c6f9b3c67b001075cce691b68ea653631dfeaa381fffa0ea530d2e66bc0") false
    over (fun _ h => by cases h) (by kernel_rfl) (fun _ h => by cases h) wfaChecks_row_tie rfl ⟨rfl, rfl⟩ (by kernel_rfl) rfl
    (fun f fn hf hfn => by
      obtain rfl : f = 7 := Option.some.inj ((show Tryz.prog.funcNamed "stackyard/stackyardlaw10.WfaChecks" = some 7 by kernel_rfl).symm.trans hf) |>.symm
      obtain rfl : fn = Tryz.f7 := (Option.some.inj (Tryz.func7.symm.trans hfn)).symm
      exact ⟨by kernel_rfl, fun j t ht => by
        rw [Tryz.params7] at ht
        have hm : t ∈ [29, 29] := by simpa using Array.mem_of_getElem? ht
        have hall : ([29, 29].all fun u => !Tryz.prog.wantsStandIn u) = true := by kernel_rfl
        exact (show Tryz.prog.wantsStandIn t = false by simpa using List.all_eq_true.1 hall t hm)⟩)
    (by kernel_rfl)
end Go.Proofs.YtfpljljjjgicaaaGreatDoor.wfaChecks
namespace Go.Proofs.YtfpljljjjgicaaaGreatDoor
/-- The statement. -/
theorem wfaChecks_holds : Rows.WfaChecksCardSaid := wfaChecks.carded
end Go.Proofs.YtfpljljjjgicaaaGreatDoor
