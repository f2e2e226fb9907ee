import Derived.Test.YtfpljljjjgicaaaGreatDoorSac
/-
  Sorting places: order2, median, choosePivot.
-/
set_option maxHeartbeats 4000000
set_option linter.unusedSimpArgs false
set_option linter.unusedVariables false
namespace Go.Proofs.YtfpljljjjgicaaaGreatDoor
open Go.RowKit
attribute [local irreducible] Wk Tr
structure Pl where
  (frm sym to : Int)
instance : Inhabited Pl := ⟨⟨0, 0, 0⟩⟩
abbrev plL (p : Pl) : List V := [iV p.frm, iV p.sym, iV p.to]
abbrev plV (p : Pl) : V := .agg (plL p)
theorem order2 (c : Pl → Pl → Int) (cf : FuncId) (cfn : Func) (ccode : Code) (hcf : HasBody Tryz.prog cf cfn ccode) (hcnt : ∀ x y, FnC Tryz.prog cf [plV x, plV y] (fun r => r = iV (c x y))) (L : List Pl) (q s : Nat) (v : Int) (a b : Nat) (ha : a < L.length) (hb : b < L.length) (hl : L.length ≤ 17592186044416) : FnQ Tryz.prog 171 [.row q 900 L.length, iV a, iV b, .ptr s 11 0, .fn cf []] [(q, 900), (s, 11)] [.row 102 (L.map plV), .cells 3 [iV v]] (fun r us' => (∃ x y : Nat, r = .tup [iV x, iV y] ∧ (x = a ∧ y = b ∨ x = b ∧ y = a)) ∧ ∃ v' : Int, us' = [.row 102 (L.map plV), .cells 3 [iV v']]) := by
  refine FnQ.of (fn := Tryz.f171) ⟨Tryz.func171, by kernel_rfl, rfl⟩ Tryz.ntmps171 (by simp) fun w0 S0 l ob0 g0 K hrow hgl hK0 => ?_
  simp only [valsO, List.cons.injEq, and_true] at hrow
  simp only [List.mem_cons, List.not_mem_nil, or_false, forall_eq_or_imp, forall_eq, forall_const] at hgl
  have hE := hrow
  refine p_go fun hf => ?_
  refine p_idxRowN (b) (ht := Tryz.underlying100) (hi := F.ti102.h) (hij := rfl) (hlt := hb) (h := ?_)
  refine p_loadRowAM (ht := F.agg102.h) (hi := F.ti102.h) (hj := hb) (h := ?_)
  refine p_go fun hf => ?_
  refine p_idxRowN (a) (ht := Tryz.underlying100) (hi := F.ti102.h) (hij := rfl) (hlt := ha) (h := ?_)
  refine p_loadRowAM (ht := F.agg102.h) (hi := F.ti102.h) (hj := ha) (h := ?_)
  refine p_call (hb := hcf) (hf := hcnt L[b] L[a]) (h := ?_)
  refine p_go ?_
  refine p_splitC (s := 22) (ht := fun hc22 => ?_) (hf := fun hc22 => ?_)
  · refine p_go fun hf => ?_
    refine p_nilChk (h := ?_)
    refine p_go fun hf => ?_
    refine p_ari (h := ?_)
    refine p_nilChk (h := ?_)
    refine p_go ?_
    refine p_retE2 (v1 := iV b) (v2 := iV a) rfl eV_ eV_ (hK0 _ _ _ (by first | (dsimp only; omega) | omega) (by (try dsimp only); repeat (first | exact hlow | exact LowQ.refl | refine LowQ.up ?_ (by omega) | refine LowQ.at_ ?_ (by simp))) (⟨⟨b, a, rfl, by simp⟩, _, (by simp (decide := true) only [valsO, updO, upd, true_and, and_true, false_and, and_false, ↓reduceIte, hE] <;> rfl)⟩))
  · refine p_go ?_
    refine p_retE2 (v1 := iV a) (v2 := iV b) rfl eV_ eV_ (hK0 _ _ _ (by first | (dsimp only; omega) | omega) (by (try dsimp only); repeat (first | exact hlow | exact LowQ.refl | refine LowQ.up ?_ (by omega) | refine LowQ.at_ ?_ (by simp))) (⟨⟨a, b, rfl, by simp⟩, _, (by simp (decide := true) only [valsO, updO, upd, true_and, and_true, false_and, and_false, ↓reduceIte, hE] <;> rfl)⟩))
theorem median (c : Pl → Pl → Int) (cf : FuncId) (cfn : Func) (ccode : Code) (hcf : HasBody Tryz.prog cf cfn ccode) (hcnt : ∀ x y, FnC Tryz.prog cf [plV x, plV y] (fun r => r = iV (c x y))) (L : List Pl) (q s : Nat) (v : Int) (a b d : Nat) (ha : a < L.length) (hb : b < L.length) (hd : d < L.length) (hl : L.length ≤ 17592186044416) : FnQ Tryz.prog 158 [.row q 900 L.length, iV a, iV b, iV d, .ptr s 11 0, .fn cf []] [(q, 900), (s, 11)] [.row 102 (L.map plV), .cells 3 [iV v]] (fun r us' => (∃ p : Nat, r = iV p ∧ (p = a ∨ p = b ∨ p = d)) ∧ ∃ v' : Int, us' = [.row 102 (L.map plV), .cells 3 [iV v']]) := by
  refine FnQ.of (fn := Tryz.f158) ⟨Tryz.func158, by kernel_rfl, rfl⟩ Tryz.ntmps158 (by simp) fun w0 S0 l ob0 g0 K hrow hgl hK0 => ?_
  simp only [valsO, List.cons.injEq, and_true] at hrow
  simp only [List.mem_cons, List.not_mem_nil, or_false, forall_eq_or_imp, forall_eq, forall_const] at hgl
  have hE := hrow
  refine p_go fun hf => ?_
  refine p_callQ ([]) (hf := order2 c cf cfn ccode hcf hcnt L q s _ a b (by omega) (by omega) hl) (hg := by simp; omega) (hos := by simp) (h := fun r o1 h1 hg1 hlw1 hos1 hR1 => ?_)
  obtain ⟨⟨x1, y1, rfl, hx1⟩, v1, hv1⟩ := hR1
  have hlow : LowQ g0 [(q, 900), (s, 11)] ob0 o1 := LowQ.trans (by (try dsimp only); repeat (first | exact hlow | exact LowQ.refl | refine LowQ.up ?_ (by omega) | refine LowQ.at_ ?_ (by simp))) hlw1 (by first | (dsimp only; omega) | omega) (fun k hk => .inl hk)
  simp only [valsO, List.cons.injEq, and_true] at hos1 hv1
  have hE := hv1
  refine p_go fun hf => ?_
  refine p_callQ ([]) (hf := order2 c cf cfn ccode hcf hcnt L q s _ y1 d (by omega) (by omega) hl) (hg := by simp; omega) (hos := by simp) (h := fun r o2 h2 hg2 hlw2 hos2 hR2 => ?_)
  obtain ⟨⟨x2, y2, rfl, hx2⟩, v2, hv2⟩ := hR2
  have hlow : LowQ g0 [(q, 900), (s, 11)] ob0 o2 := LowQ.trans (by (try dsimp only); repeat (first | exact hlow | exact LowQ.refl | refine LowQ.up ?_ (by omega) | refine LowQ.at_ ?_ (by simp))) hlw2 (by first | (dsimp only; omega) | omega) (fun k hk => .inl hk)
  simp only [valsO, List.cons.injEq, and_true] at hos2 hv2
  have hE := hv2
  refine p_go fun hf => ?_
  refine p_callQ ([]) (hf := order2 c cf cfn ccode hcf hcnt L q s _ x1 x2 (by omega) (by omega) hl) (hg := by simp; omega) (hos := by simp) (h := fun r o3 h3 hg3 hlw3 hos3 hR3 => ?_)
  obtain ⟨⟨x3, y3, rfl, hx3⟩, v3, hv3⟩ := hR3
  have hlow : LowQ g0 [(q, 900), (s, 11)] ob0 o3 := LowQ.trans (by (try dsimp only); repeat (first | exact hlow | exact LowQ.refl | refine LowQ.up ?_ (by omega) | refine LowQ.at_ ?_ (by simp))) hlw3 (by first | (dsimp only; omega) | omega) (fun k hk => .inl hk)
  simp only [valsO, List.cons.injEq, and_true] at hos3 hv3
  have hE := hv3
  refine p_go ?_
  refine p_retE1 (v := iV y3) rfl eV_ (hK0 _ _ _ (by first | (dsimp only; omega) | omega) (by (try dsimp only); repeat (first | exact hlow | exact LowQ.refl | refine LowQ.up ?_ (by omega) | refine LowQ.at_ ?_ (by simp))) (⟨⟨y3, rfl, by omega⟩, _, (by simp (decide := true) only [valsO, updO, upd, true_and, and_true, false_and, and_false, ↓reduceIte, hE] <;> rfl)⟩))
end Go.Proofs.YtfpljljjjgicaaaGreatDoor
/-
  Sorting places: choosing a pivot, insertion sort.
-/
set_option maxHeartbeats 4000000
set_option linter.unusedSimpArgs false
set_option linter.unusedVariables false
namespace Go.Proofs.YtfpljljjjgicaaaGreatDoor
open Go.RowKit
attribute [local irreducible] Wk Tr
theorem medianAdj (c : Pl → Pl → Int) (cf : FuncId) (cfn : Func) (ccode : Code) (hcf : HasBody Tryz.prog cf cfn ccode) (hcnt : ∀ x y, FnC Tryz.prog cf [plV x, plV y] (fun r => r = iV (c x y))) (L : List Pl) (q s : Nat) (v : Int) (a : Nat) (h1 : 1 ≤ a) (ha : a + 1 < L.length) (hl : L.length ≤ 17592186044416) : FnQ Tryz.prog 157 [.row q 900 L.length, iV a, .ptr s 11 0, .fn cf []] [(q, 900), (s, 11)] [.row 102 (L.map plV), .cells 3 [iV v]] (fun r us' => (∃ p : Nat, r = iV p ∧ (a ≤ p + 1 ∧ p ≤ a + 1)) ∧ ∃ v' : Int, us' = [.row 102 (L.map plV), .cells 3 [iV v']]) := by
  refine FnQ.of (fn := Tryz.f157) ⟨Tryz.func157, by kernel_rfl, rfl⟩ Tryz.ntmps157 (by simp) fun w0 S0 l ob0 g0 K hrow hgl hK0 => ?_
  simp only [valsO, List.cons.injEq, and_true] at hrow
  simp only [List.mem_cons, List.not_mem_nil, or_false, forall_eq_or_imp, forall_eq, forall_const] at hgl
  have hE := hrow
  refine p_go fun hf => ?_
  refine p_sub (r := ((a - 1 : Nat) : Int)) (hr := by omega) (hb := by omega) (h := ?_)
  refine p_go fun hf => ?_
  refine p_add (r := ((a + 1 : Nat) : Int)) (hr := (by first | omega | (simp only [decide_eq_true_eq, decide_eq_false_iff_not, Bool.or_eq_false_iff, Bool.and_eq_true, Bool.not_eq_true', Bool.not_eq_false'] at *; omega))) (hb := (by first | omega | (simp only [decide_eq_true_eq, decide_eq_false_iff_not, Bool.or_eq_false_iff, Bool.and_eq_true, Bool.not_eq_true', Bool.not_eq_false'] at *; omega))) (h := ?_)
  refine p_go fun hf => ?_
  refine p_callQ ([]) (hf := median c cf cfn ccode hcf hcnt L q s _ (a - 1) a (a + 1) (by omega) (by omega) (by omega) hl) (hg := by simp; omega) (hos := by simp) (h := fun r o1 h1 hg1 hlw1 hos1 hR1 => ?_)
  obtain ⟨⟨y1, rfl, hx1⟩, v1, hv1⟩ := hR1
  have hlow : LowQ g0 [(q, 900), (s, 11)] ob0 o1 := LowQ.trans (by (try dsimp only); repeat (first | exact hlow | exact LowQ.refl | refine LowQ.up ?_ (by omega) | refine LowQ.at_ ?_ (by simp))) hlw1 (by first | (dsimp only; omega) | omega) (fun k hk => .inl hk)
  simp only [valsO, List.cons.injEq, and_true] at hos1 hv1
  have hE := hv1
  refine p_go ?_
  refine p_retE1 (v := iV y1) rfl eV_ (hK0 _ _ _ (by first | (dsimp only; omega) | omega) (by (try dsimp only); repeat (first | exact hlow | exact LowQ.refl | refine LowQ.up ?_ (by omega) | refine LowQ.at_ ?_ (by simp))) (⟨⟨y1, rfl, by omega⟩, _, (by simp (decide := true) only [valsO, updO, upd, true_and, and_true, false_and, and_false, ↓reduceIte, hE] <;> rfl)⟩))
theorem choose (c : Pl → Pl → Int) (cf : FuncId) (cfn : Func) (ccode : Code) (hcf : HasBody Tryz.prog cf cfn ccode) (hcnt : ∀ x y, FnC Tryz.prog cf [plV x, plV y] (fun r => r = iV (c x y))) (L : List Pl) (q : Nat) (a b : Nat) (hab : a ≤ b) (hb : b ≤ L.length) (hl : L.length ≤ 17592186044416) (h8 : a + 8 ≤ b) : FnQ Tryz.prog 119 [.row q 900 L.length, iV a, iV b, .fn cf []] [(q, 900)] [.row 102 (L.map plV)] (fun r us' => (∃ (p : Nat) (h : Int), r = .tup [iV p, iV h] ∧ a ≤ p ∧ p < b) ∧ us' = [.row 102 (L.map plV)]) := by
  refine FnQ.of (fn := Tryz.f119) ⟨Tryz.func119, by kernel_rfl, rfl⟩ Tryz.ntmps119 (by simp) fun w0 S0 l ob0 g0 K hrow hgl hK0 => ?_
  simp only [valsO, List.cons.injEq, and_true] at hrow
  simp only [List.mem_cons, List.not_mem_nil, or_false, forall_eq_or_imp, forall_eq, forall_const] at hgl
  have hE := hrow
  refine p_go fun hf => ?_
  refine p_sub (r := ((b - a : Nat) : Int)) (hr := by omega) (hb := by omega) (h := ?_)
  refine p_go fun hf => ?_
  refine p_quo (r := (((b - a) / 4 : Nat) : Int)) (by decide) eV_ eV_ (by omega) (by omega) ?_
  refine p_mul (r := (((b - a) / 4 : Nat) : Int)) (hr := by omega) (hb := by omega) (h := ?_)
  refine p_add (r := ((a + (b - a) / 4 : Nat) : Int)) (hr := (by first | omega | (simp only [decide_eq_true_eq, decide_eq_false_iff_not, Bool.or_eq_false_iff, Bool.and_eq_true, Bool.not_eq_true', Bool.not_eq_false'] at *; omega))) (hb := (by first | omega | (simp only [decide_eq_true_eq, decide_eq_false_iff_not, Bool.or_eq_false_iff, Bool.and_eq_true, Bool.not_eq_true', Bool.not_eq_false'] at *; omega))) (h := ?_)
  refine p_go fun hf => ?_
  refine p_quo (r := (((b - a) / 4 : Nat) : Int)) (by decide) eV_ eV_ (by omega) (by omega) ?_
  refine p_mul (r := (((b - a) / 4 * 2 : Nat) : Int)) (hr := by omega) (hb := by omega) (h := ?_)
  refine p_add (r := ((a + (b - a) / 4 * 2 : Nat) : Int)) (hr := (by first | omega | (simp only [decide_eq_true_eq, decide_eq_false_iff_not, Bool.or_eq_false_iff, Bool.and_eq_true, Bool.not_eq_true', Bool.not_eq_false'] at *; omega))) (hb := (by first | omega | (simp only [decide_eq_true_eq, decide_eq_false_iff_not, Bool.or_eq_false_iff, Bool.and_eq_true, Bool.not_eq_true', Bool.not_eq_false'] at *; omega))) (h := ?_)
  refine p_go fun hf => ?_
  refine p_quo (r := (((b - a) / 4 : Nat) : Int)) (by decide) eV_ eV_ (by omega) (by omega) ?_
  refine p_mul (r := (((b - a) / 4 * 3 : Nat) : Int)) (hr := by omega) (hb := by omega) (h := ?_)
  refine p_add (r := ((a + (b - a) / 4 * 3 : Nat) : Int)) (hr := (by first | omega | (simp only [decide_eq_true_eq, decide_eq_false_iff_not, Bool.or_eq_false_iff, Bool.and_eq_true, Bool.not_eq_true', Bool.not_eq_false'] at *; omega))) (hb := (by first | omega | (simp only [decide_eq_true_eq, decide_eq_false_iff_not, Bool.or_eq_false_iff, Bool.and_eq_true, Bool.not_eq_true', Bool.not_eq_false'] at *; omega))) (h := ?_)
  refine p_go ?_
  refine p_splitC (s := 34) (ht := fun hc34 => ?_) (hf := fun hc34 => ?_)
  · refine p_go ?_
    refine p_splitC (s := 36) (ht := fun hc36 => ?_) (hf := fun hc36 => ?_)
    · have h50 : a + 50 ≤ b := by have h := hc36; simp at h; omega
      refine p_go fun hf => ?_
      refine p_callQ ([]) (hf := medianAdj c cf cfn ccode hcf hcnt L q (g0 + 1 + 1 + 1) _ (a + (b - a) / 4) (by omega) (by omega) hl) (hg := by simp; omega) (hos := by simp) (h := fun r o1 h1 hg1 hlw1 hos1 hR1 => ?_)
      obtain ⟨⟨y1, rfl, hy1⟩, v1, hv1⟩ := hR1
      have hlow : LowQ g0 [(q, 900)] ob0 o1 := LowQ.trans (by (try dsimp only); repeat (first | exact hlow | exact LowQ.refl | refine LowQ.up ?_ (by omega) | refine LowQ.at_ ?_ (by simp))) hlw1 (by first | (dsimp only; omega) | omega) (fun k hk => by simp only [List.mem_cons, List.not_mem_nil, or_false] at hk; rcases hk with rfl | rfl <;> first | (refine .inl ?_; simp; done) | (refine .inr ?_; dsimp only; omega))
      simp only [valsO, List.cons.injEq, and_true] at hos1 hv1
      have hE := hv1
      refine p_go fun hf => ?_
      refine p_callQ ([]) (hf := medianAdj c cf cfn ccode hcf hcnt L q (g0 + 1 + 1 + 1) _ (a + (b - a) / 4 * 2) (by omega) (by omega) hl) (hg := by simp; omega) (hos := by simp) (h := fun r o2 h2 hg2 hlw2 hos2 hR2 => ?_)
      obtain ⟨⟨y2, rfl, hy2⟩, v2, hv2⟩ := hR2
      have hlow : LowQ g0 [(q, 900)] ob0 o2 := LowQ.trans (by (try dsimp only); repeat (first | exact hlow | exact LowQ.refl | refine LowQ.up ?_ (by omega) | refine LowQ.at_ ?_ (by simp))) hlw2 (by first | (dsimp only; omega) | omega) (fun k hk => by simp only [List.mem_cons, List.not_mem_nil, or_false] at hk; rcases hk with rfl | rfl <;> first | (refine .inl ?_; simp; done) | (refine .inr ?_; dsimp only; omega))
      simp only [valsO, List.cons.injEq, and_true] at hos2 hv2
      have hE := hv2
      refine p_go fun hf => ?_
      refine p_callQ ([]) (hf := medianAdj c cf cfn ccode hcf hcnt L q (g0 + 1 + 1 + 1) _ (a + (b - a) / 4 * 3) (by omega) (by omega) hl) (hg := by simp; omega) (hos := by simp) (h := fun r o3 h3 hg3 hlw3 hos3 hR3 => ?_)
      obtain ⟨⟨y3, rfl, hy3⟩, v3, hv3⟩ := hR3
      have hlow : LowQ g0 [(q, 900)] ob0 o3 := LowQ.trans (by (try dsimp only); repeat (first | exact hlow | exact LowQ.refl | refine LowQ.up ?_ (by omega) | refine LowQ.at_ ?_ (by simp))) hlw3 (by first | (dsimp only; omega) | omega) (fun k hk => by simp only [List.mem_cons, List.not_mem_nil, or_false] at hk; rcases hk with rfl | rfl <;> first | (refine .inl ?_; simp; done) | (refine .inr ?_; dsimp only; omega))
      simp only [valsO, List.cons.injEq, and_true] at hos3 hv3
      have hE := hv3
      refine p_go fun hf => ?_
      refine p_callQ ([]) (hf := median c cf cfn ccode hcf hcnt L q (g0 + 1 + 1 + 1) _ (y1) (y2) (y3) (by omega) (by omega) (by omega) hl) (hg := by simp; omega) (hos := by simp) (h := fun r o4 h4 hg4 hlw4 hos4 hR4 => ?_)
      obtain ⟨⟨y4, rfl, hy4⟩, v4, hv4⟩ := hR4
      have hlow : LowQ g0 [(q, 900)] ob0 o4 := LowQ.trans (by (try dsimp only); repeat (first | exact hlow | exact LowQ.refl | refine LowQ.up ?_ (by omega) | refine LowQ.at_ ?_ (by simp))) hlw4 (by first | (dsimp only; omega) | omega) (fun k hk => by simp only [List.mem_cons, List.not_mem_nil, or_false] at hk; rcases hk with rfl | rfl <;> first | (refine .inl ?_; simp; done) | (refine .inr ?_; dsimp only; omega))
      simp only [valsO, List.cons.injEq, and_true] at hos4 hv4
      have hE := hv4
      refine p_go ?_
      refine p_splitC (s := 57) (ht := fun hc57 => ?_) (hf := fun hc57 => ?_)
      · refine p_go ?_
        refine p_retE2 (v1 := iV y4) (v2 := iV 1) rfl eV_ eV_ (hK0 _ _ _ (by first | (dsimp only; omega) | omega) (by (try dsimp only); repeat (first | exact hlow | exact LowQ.refl | refine LowQ.up ?_ (by omega) | refine LowQ.at_ ?_ (by simp))) (⟨⟨y4, 1, rfl, by omega, by omega⟩, (by simp (decide := true) only [valsO, updO, upd, true_and, and_true, false_and, and_false, ↓reduceIte, hE] <;> rfl)⟩))
      · refine p_go ?_
        refine p_splitC (s := 60) (ht := fun hc60 => ?_) (hf := fun hc60 => ?_)
        · refine p_go ?_
          refine p_retE2 (v1 := iV y4) (v2 := iV 2) rfl eV_ eV_ (hK0 _ _ _ (by first | (dsimp only; omega) | omega) (by (try dsimp only); repeat (first | exact hlow | exact LowQ.refl | refine LowQ.up ?_ (by omega) | refine LowQ.at_ ?_ (by simp))) (⟨⟨y4, 2, rfl, by omega, by omega⟩, (by simp (decide := true) only [valsO, updO, upd, true_and, and_true, false_and, and_false, ↓reduceIte, hE] <;> rfl)⟩))
        · refine p_go ?_
          refine p_retE2 (v1 := iV y4) (v2 := iV 0) rfl eV_ eV_ (hK0 _ _ _ (by first | (dsimp only; omega) | omega) (by (try dsimp only); repeat (first | exact hlow | exact LowQ.refl | refine LowQ.up ?_ (by omega) | refine LowQ.at_ ?_ (by simp))) (⟨⟨y4, 0, rfl, by omega, by omega⟩, (by simp (decide := true) only [valsO, updO, upd, true_and, and_true, false_and, and_false, ↓reduceIte, hE] <;> rfl)⟩))
    · refine p_go fun hf => ?_
      refine p_callQ ([]) (hf := median c cf cfn ccode hcf hcnt L q (g0 + 1 + 1 + 1) _ (a + (b - a) / 4) (a + (b - a) / 4 * 2) (a + (b - a) / 4 * 3) (by omega) (by omega) (by omega) hl) (hg := by simp; omega) (hos := by simp) (h := fun r o4 h4 hg4 hlw4 hos4 hR4 => ?_)
      obtain ⟨⟨y4, rfl, hy4⟩, v4, hv4⟩ := hR4
      have hlow : LowQ g0 [(q, 900)] ob0 o4 := LowQ.trans (by (try dsimp only); repeat (first | exact hlow | exact LowQ.refl | refine LowQ.up ?_ (by omega) | refine LowQ.at_ ?_ (by simp))) hlw4 (by first | (dsimp only; omega) | omega) (fun k hk => by simp only [List.mem_cons, List.not_mem_nil, or_false] at hk; rcases hk with rfl | rfl <;> first | (refine .inl ?_; simp; done) | (refine .inr ?_; dsimp only; omega))
      simp only [valsO, List.cons.injEq, and_true] at hos4 hv4
      have hE := hv4
      refine p_go ?_
      refine p_splitC (s := 57) (ht := fun hc57 => ?_) (hf := fun hc57 => ?_)
      · refine p_go ?_
        refine p_retE2 (v1 := iV y4) (v2 := iV 1) rfl eV_ eV_ (hK0 _ _ _ (by first | (dsimp only; omega) | omega) (by (try dsimp only); repeat (first | exact hlow | exact LowQ.refl | refine LowQ.up ?_ (by omega) | refine LowQ.at_ ?_ (by simp))) (⟨⟨y4, 1, rfl, by omega, by omega⟩, (by simp (decide := true) only [valsO, updO, upd, true_and, and_true, false_and, and_false, ↓reduceIte, hE] <;> rfl)⟩))
      · refine p_go ?_
        refine p_splitC (s := 60) (ht := fun hc60 => ?_) (hf := fun hc60 => ?_)
        · refine p_go ?_
          refine p_retE2 (v1 := iV y4) (v2 := iV 2) rfl eV_ eV_ (hK0 _ _ _ (by first | (dsimp only; omega) | omega) (by (try dsimp only); repeat (first | exact hlow | exact LowQ.refl | refine LowQ.up ?_ (by omega) | refine LowQ.at_ ?_ (by simp))) (⟨⟨y4, 2, rfl, by omega, by omega⟩, (by simp (decide := true) only [valsO, updO, upd, true_and, and_true, false_and, and_false, ↓reduceIte, hE] <;> rfl)⟩))
        · refine p_go ?_
          refine p_retE2 (v1 := iV y4) (v2 := iV 0) rfl eV_ eV_ (hK0 _ _ _ (by first | (dsimp only; omega) | omega) (by (try dsimp only); repeat (first | exact hlow | exact LowQ.refl | refine LowQ.up ?_ (by omega) | refine LowQ.at_ ?_ (by simp))) (⟨⟨y4, 0, rfl, by omega, by omega⟩, (by simp (decide := true) only [valsO, updO, upd, true_and, and_true, false_and, and_false, ↓reduceIte, hE] <;> rfl)⟩))
  · exact absurd hc34 (by simp; omega)
theorem insSort (c : Pl → Pl → Int) (cf : FuncId) (cfn : Func) (ccode : Code) (hcf : HasBody Tryz.prog cf cfn ccode) (hcnt : ∀ x y, FnC Tryz.prog cf [plV x, plV y] (fun r => r = iV (c x y))) (hc : TotC c) (L : List Pl) (q : Nat) (a b : Nat) (hab : a ≤ b) (hb : b ≤ L.length) (hl : L.length ≤ 17592186044416) : FnQ Tryz.prog 116 [.row q 900 L.length, iV a, iV b, .fn cf []] [(q, 900)] [.row 102 (L.map plV)] (fun r us' => ∃ M, us' = [.row 102 (M.map plV)] ∧ Mix a b L M ∧ SortedOn c a b M) := by
  refine FnQ.of (fn := Tryz.f116) ⟨Tryz.func116, by kernel_rfl, rfl⟩ Tryz.ntmps116 (by simp) fun w0 S0 l ob0 g0 K hrow hgl hK0 => ?_
  simp only [valsO, List.cons.injEq, and_true] at hrow
  simp only [List.mem_cons, List.not_mem_nil, or_false, forall_eq_or_imp, forall_eq, forall_const] at hgl
  have hE := hrow
  refine p_go fun hf => ?_
  refine p_add (r := ((a + 1 : Nat) : Int)) (hr := (by first | omega | (simp only [decide_eq_true_eq, decide_eq_false_iff_not, Bool.or_eq_false_iff, Bool.and_eq_true, Bool.not_eq_true', Bool.not_eq_false'] at *; omega))) (hb := (by first | omega | (simp only [decide_eq_true_eq, decide_eq_false_iff_not, Bool.or_eq_false_iff, Bool.and_eq_true, Bool.not_eq_true', Bool.not_eq_false'] at *; omega))) (h := ?_)
  refine p_go ?_
  refine p_loopK [0, 1, 2, 3] [] (fun st => ∃ (i : Nat) (N : List Pl), (a + 1 ≤ i) ∧ (i ≤ b ∨ i = a + 1) ∧ (Mix a b L N) ∧ (SortedOn c a i N) ∧ (LowQ g0 [(q, 900)] ob0 st.obj) ∧ (g0 ≤ st.gen) ∧ st.env 8 = iV i ∧ st.obj q 900 = .row 102 (N.map plV)) (fun st => b - (st.env 8).toN) ?_ fun e ob g1 hK hO hI => ?_
  · exact ⟨a + 1, L, by omega, .inr rfl, Mix.refl, fun _ _ h1 h2 h3 => by omega, (by (try dsimp only); repeat (first | exact hlow | exact LowQ.refl | refine LowQ.up ?_ (by omega) | refine LowQ.at_ ?_ (by simp))), (by first | (dsimp only; omega) | omega), eV_, oB_⟩
  · obtain ⟨i, N, hi, hib, hmx, hsr, hlow, hgen, e8, o900⟩ := hI
    dsimp only at e8 o900
    simp only [valsE, List.cons.injEq, and_true] at hK
    have hE := (⟨hK, e8, o900⟩ : _ ∧ _ ∧ _)
    dsimp only at hlow hgen
    refine p_go ?_
    refine p_splitC (s := 14) (ht := fun hc14 => ?_) (hf := fun hc14 => ?_)
    · have hlt : i < b := by simpa using hc14
      refine p_go ?_
      refine p_loopK [0, 1, 2, 3, 8] [] (fun st => ∃ (j : Nat) (M : List Pl), (a ≤ j) ∧ (j ≤ i) ∧ (Mix a b L M) ∧ (InsAt c a i j M) ∧ (LowQ g0 [(q, 900)] ob0 st.obj) ∧ (g0 ≤ st.gen) ∧ st.env 9 = iV j ∧ st.obj q 900 = .row 102 (M.map plV)) (fun st => (st.env 9).toN) ?_ fun e ob g2 hK hO hI => ?_
      · exact ⟨i, N, by omega, Nat.le_refl _, hmx, InsAt.start hsr, (by (try dsimp only); repeat (first | exact hlow | exact LowQ.refl | refine LowQ.up ?_ (by omega) | refine LowQ.at_ ?_ (by simp))), (by first | (dsimp only; omega) | omega), eV_, oB_⟩
      · obtain ⟨j, M, hja0, hji, hmx, hin, hlow, hgen, e9, o900⟩ := hI
        dsimp only at e9 o900
        simp only [valsE, List.cons.injEq, and_true] at hK
        have hE := (⟨hK, e9, o900⟩ : _ ∧ _ ∧ _)
        dsimp only at hlow hgen
        have hML := hmx.len
        refine p_go fun hf => ?_
        refine p_split (s := 21) (ht := fun hb21 => ?_) (hf := fun hb21 => ?_)
        · have hja : a < j := by simpa using hb21
          refine p_go fun hf => ?_
          refine p_idxRowN (j) (ht := Tryz.underlying100) (hi := F.ti102.h) (hij := by omega) (hlt := by (try simp only [List.length_set]); omega) (h := ?_)
          refine p_go fun hf => ?_
          refine p_loadRowAM (ht := F.agg102.h) (hi := F.ti102.h) (hj := by (try simp only [List.length_set]); omega) (h := ?_)
          refine p_go fun hf => ?_
          refine p_sub (r := ((j - 1 : Nat) : Int)) (hr := by omega) (hb := by omega) (h := ?_)
          refine p_go fun hf => ?_
          refine p_idxRowN (j - 1) (ht := Tryz.underlying100) (hi := F.ti102.h) (hij := by omega) (hlt := by (try simp only [List.length_set]); omega) (h := ?_)
          refine p_go fun hf => ?_
          refine p_loadRowAM (ht := F.agg102.h) (hi := F.ti102.h) (hj := by (try simp only [List.length_set]); omega) (h := ?_)
          refine p_go fun hf => ?_
          refine p_call (hb := hcf) (hf := hcnt (M[j]) (M[j - 1])) (h := ?_)
          refine p_go ?_
          refine p_splitC (s := 34) (ht := fun hc34 => ?_) (hf := fun hc34 => ?_)
          · have hless : c (el M (j)) (el M (j - 1)) < 0 := by
              rw [el_at (L := M) (i := j) (by omega), el_at (L := M) (i := j - 1) (by omega)]; simpa using hc34
            refine p_go fun hf => ?_
            refine p_sub (r := ((j - 1 : Nat) : Int)) (hr := by omega) (hb := by omega) (h := ?_)
            refine p_go fun hf => ?_
            refine p_sub (r := ((j - 1 : Nat) : Int)) (hr := by omega) (hb := by omega) (h := ?_)
            refine p_idxRowN (j - 1) (ht := Tryz.underlying100) (hi := F.ti102.h) (hij := by omega) (hlt := by (try simp only [List.length_set]); omega) (h := ?_)
            refine p_loadRowAM (ht := F.agg102.h) (hi := F.ti102.h) (hj := by (try simp only [List.length_set]); omega) (h := ?_)
            refine p_go fun hf => ?_
            refine p_idxRowN (j) (ht := Tryz.underlying100) (hi := F.ti102.h) (hij := by omega) (hlt := by (try simp only [List.length_set]); omega) (h := ?_)
            refine p_loadRowAM (ht := F.agg102.h) (hi := F.ti102.h) (hj := by (try simp only [List.length_set]); omega) (h := ?_)
            refine p_idxRowN (j) (ht := Tryz.underlying100) (hi := F.ti102.h) (hij := by omega) (hlt := by (try simp only [List.length_set]); omega) (h := ?_)
            refine p_storeRowMA (M[j - 1]) (hi := F.ti102.h) (hc := TI.cells F.ti102.h) (hlt := by (try simp only [List.length_set]); omega) (h := ?_)
            refine p_idxRowN (j - 1) (ht := Tryz.underlying100) (hi := F.ti102.h) (hij := by omega) (hlt := by (try simp only [List.length_set]); omega) (h := ?_)
            refine p_storeRowMA (M[j]) (hi := F.ti102.h) (hc := TI.cells F.ti102.h) (hlt := by (try simp only [List.length_set]); omega) (h := ?_)
            refine p_go fun hf => ?_
            refine p_sub (r := ((j - 1 : Nat) : Int)) (hr := by omega) (hb := by omega) (h := ?_)
            refine p_go ?_
            refine p_some ?_
            refine ⟨⟨(by simp (decide := true) only [valsE, evE, upd, cv, args0, argsFrom, List.length_map, ↓reduceIte, hE] <;> rfl), (by simp (decide := true) only [valsO, updO, upd, true_and, and_true, false_and, and_false, ↓reduceIte, hE] <;> rfl)⟩, ⟨j - 1, swp M j (j - 1), by omega, by omega, hmx.swp hb ⟨by omega, by omega⟩ ⟨by omega, by omega⟩, hin.step hc (by omega) hja hji hless, (by (try dsimp only); repeat (first | exact hlow | exact LowQ.refl | refine LowQ.up ?_ (by omega) | refine LowQ.at_ ?_ (by simp))), (by first | (dsimp only; omega) | omega), eV_, by rw [← swp_at (by omega) (by omega)]; exact oB_⟩, ?_⟩
            simp (decide := true) only [upd, e9, V.toN, ↓reduceIte]; omega
          · have hless : ¬ c (el M (j)) (el M (j - 1)) < 0 := by
              rw [el_at (L := M) (i := j) (by omega), el_at (L := M) (i := j - 1) (by omega)]; simpa using hc34
            refine p_go fun hf => ?_
            refine p_add (r := ((i + 1 : Nat) : Int)) (hr := (by first | omega | (simp only [decide_eq_true_eq, decide_eq_false_iff_not, Bool.or_eq_false_iff, Bool.and_eq_true, Bool.not_eq_true', Bool.not_eq_false'] at *; omega))) (hb := (by first | omega | (simp only [decide_eq_true_eq, decide_eq_false_iff_not, Bool.or_eq_false_iff, Bool.and_eq_true, Bool.not_eq_true', Bool.not_eq_false'] at *; omega))) (h := ?_)
            refine p_go ?_
            refine p_some ?_
            refine ⟨⟨(by simp (decide := true) only [valsE, evE, upd, cv, args0, argsFrom, List.length_map, ↓reduceIte, hE] <;> rfl), (by simp (decide := true) only [valsO, updO, upd, true_and, and_true, false_and, and_false, ↓reduceIte, hE] <;> rfl)⟩, ⟨i + 1, M, by omega, .inl (by omega), hmx, hin.stop hc (.inr ⟨hja, hless⟩), (by (try dsimp only); repeat (first | exact hlow | exact LowQ.refl | refine LowQ.up ?_ (by omega) | refine LowQ.at_ ?_ (by simp))), (by first | (dsimp only; omega) | omega), eV_, oB_⟩, ?_⟩
            simp (decide := true) only [upd, e8, V.toN, ↓reduceIte]; omega
        · have hja : j = a := by have h := hb21; simp at h; omega
          refine p_go fun hf => ?_
          refine p_add (r := ((i + 1 : Nat) : Int)) (hr := (by first | omega | (simp only [decide_eq_true_eq, decide_eq_false_iff_not, Bool.or_eq_false_iff, Bool.and_eq_true, Bool.not_eq_true', Bool.not_eq_false'] at *; omega))) (hb := (by first | omega | (simp only [decide_eq_true_eq, decide_eq_false_iff_not, Bool.or_eq_false_iff, Bool.and_eq_true, Bool.not_eq_true', Bool.not_eq_false'] at *; omega))) (h := ?_)
          refine p_go ?_
          refine p_some ?_
          refine ⟨⟨(by simp (decide := true) only [valsE, evE, upd, cv, args0, argsFrom, List.length_map, ↓reduceIte, hE] <;> rfl), (by simp (decide := true) only [valsO, updO, upd, true_and, and_true, false_and, and_false, ↓reduceIte, hE] <;> rfl)⟩, ⟨i + 1, M, by omega, .inl (by omega), hmx, hin.stop hc (.inl hja), (by (try dsimp only); repeat (first | exact hlow | exact LowQ.refl | refine LowQ.up ?_ (by omega) | refine LowQ.at_ ?_ (by simp))), (by first | (dsimp only; omega) | omega), eV_, oB_⟩, ?_⟩
          simp (decide := true) only [upd, e8, V.toN, ↓reduceIte]; omega
    · have hge : b ≤ i := by simpa using hc14
      refine p_go ?_
      refine p_retE0 rfl (hK0 _ _ _ (by first | (dsimp only; omega) | omega) (by (try dsimp only); repeat (first | exact hlow | exact LowQ.refl | refine LowQ.up ?_ (by omega) | refine LowQ.at_ ?_ (by simp))) (⟨N, (by simp (decide := true) only [valsO, updO, upd, true_and, and_true, false_and, and_false, ↓reduceIte, hE] <;> rfl), hmx, fun p r h1 h2 h3 => hsr p r h1 h2 (by omega)⟩))
end Go.Proofs.YtfpljljjjgicaaaGreatDoor
