/-
  The program's Parse.
-/
import Derived.Test.YtjdhkopjigijfaaXno
import Derived.Test.YtjdhkopjigijfaaZ12
set_option linter.unusedSimpArgs false
set_option linter.unusedVariables false
set_option maxHeartbeats 8000000
namespace Go.Proofs.Ytjdhkopjigijfaa
open Go.RowKit
attribute [local irreducible] Wk Tr
def zeroR : Rx := .mk 0 ⟨#[]⟩ []
/-- What a text means, or where it is none. -/
def parseV (s : ByteArray) : Rx × Nat × Int :=
  if 10000 < s.size then (zeroR, 0, 2)
  else match pAlt s (5 * s.size + 4) 0 0 false with
    | .bad a => (zeroR, a, 70)
    | .ok x j e => if j < s.size then (zeroR, j, 70) else if e = true ∨ errE x ≠ 0 then (zeroR, 0, 71) else (x, 0, 0)
abbrev parO (s : ByteArray) : V := .tup [rxA (parseV s).1, inV (parseV s).2.1, iV (parseV s).2.2]
theorem parseV_long {s : ByteArray} (h : 10000 < s.size) : parseV s = (zeroR, 0, 2) := if_pos h
theorem parseV_bad {s : ByteArray} {a : Nat} (h : ¬ 10000 < s.size) (hp : pAlt s (5 * s.size + 4) 0 0 false = .bad a) : parseV s = (zeroR, a, 70) := by
  rw [parseV, if_neg h, hp]
theorem parseV_more {s : ByteArray} {x : Rx} {j : Nat} {e : Bool} (h : ¬ 10000 < s.size) (hp : pAlt s (5 * s.size + 4) 0 0 false = .ok x j e) (hj : j < s.size) : parseV s = (zeroR, j, 70) := by
  rw [parseV, if_neg h, hp]; exact if_pos hj
theorem parseV_deep {s : ByteArray} {x : Rx} {j : Nat} {e : Bool} (h : ¬ 10000 < s.size) (hp : pAlt s (5 * s.size + 4) 0 0 false = .ok x j e) (hj : ¬ j < s.size) (he : e = true ∨ errE x ≠ 0) : parseV s = (zeroR, 0, 71) := by
  rw [parseV, if_neg h, hp]; dsimp only; rw [if_neg hj, if_pos he]
theorem parseV_ok {s : ByteArray} {x : Rx} {j : Nat} {e : Bool} (h : ¬ 10000 < s.size) (hp : pAlt s (5 * s.size + 4) 0 0 false = .ok x j e) (hj : ¬ j < s.size) (he : ¬ (e = true ∨ errE x ≠ 0)) : parseV s = (x, 0, 0) := by
  rw [parseV, if_neg h, hp]; dsimp only; rw [if_neg hj, if_neg he]
theorem Sm_of_sz (r : Rx) : r.sz ≤ 17592186044416 → r.Sm := by
  induction r using Rx.ind with
  | _ r ih =>
    intro h
    have h1 := r.sz_eq
    have h2 := Rx.szL_len r.kids
    exact .mk (by omega) fun k hk => ih k hk (by have := Rx.szL_mem hk; omega)

theorem parseP (s : ByteArray) (hsl : s.size ≤ 4611686018427387904) : FnP Try.prog 9 [.str s] [] [] (fun r vs => r = parO s) (fun v vs => False) := by
  refine FnP.of (fn := Try.f9) ⟨Try.func9, by kernel_rfl, rfl⟩ Try.ntmps9 (by simp) fun w0 S0 l ob0 g0 K KP hrow hgl hK0 hKP0 => ?_
  simp only [valsO, List.cons.injEq, and_true] at hrow
  simp only [List.mem_cons, List.not_mem_nil, or_false, forall_eq_or_imp, forall_eq, forall_const] at hgl
  have hE := hrow
  refine p_go ?_
  refine p_splitC (s := 9) (ht := fun hc9 => ?_) (hf := fun hc9 => ?_)
  · have hn : 10000 < s.size := by have h := hc9; simp at h; omega
    refine p_go fun hf => ?_
    refine p_build (hi := F.ti25.h) (hpl := F.pl25.h) (h := ?_)
    refine p_storeAll F.ti25.h (h := ?_)
    refine p_store1 F.ti3.h (h := ?_)
    refine p_store1 F.ti26.h (h := ?_)
    refine p_end ?_
    refine TrC.ret ?_
    refine p_cellNil (g1 := g0 + 1) (d1 := 2) (i := 2) (el := 25) (h := ?_)
    refine p_retP ?_
    refine p_retW3 (v1 := rxA zeroR) (v2 := inV (0)) (v3 := iV (2)) rfl (w_agg eV_ oB_ F.agg25.h F.ti25.h rfl) (w_leaf eV_ oB_ F.leaf3.h rfl) (w_leaf eV_ oB_ F.leaf26.h rfl) (hK0 _ _ _ (by first | (dsimp only; omega) | omega) (by (try dsimp only); repeat (first | exact hlow | exact LowQ.refl | refine LowQ.or_ ?_ (by assumption) | refine LowQ.up ?_ (by omega) | refine LowQ.at_ ?_ (by simp))) (by rw [parO, parseV_long hn]))
  · have hn : ¬ 10000 < s.size := by have h := hc9; simp at h; omega
    refine p_go fun hf => ?_
    refine p_defer (h := ?_)
    refine p_go fun hf => ?_
    refine p_build (hi := F.ti66.h) (hpl := F.pl66.h) (h := ?_)
    refine p_build (hi := F.ti68.h) (hpl := F.pl68.h) (h := ?_)
    refine p_go fun hf => ?_
    have hpc := (parts s (by omega) (g0 + 1 + 1 + 1 + 1) (5 * s.size + 4)).1 0 0 false (Nat.zero_le _) (Nat.le_refl _) (by omega)
    refine p_callP ([(g0 + 1, 2), (g0 + 1, 3), (g0 + 1, 4)]) (hf := hpc) (hg := by simp) (hos := by simp <;> omega) (hp := fun x9 o9 h9 hg9 hlw9 hos9 hR9 => ?_) (h := fun r o1 h1 hg1 hlw1 hos1 hR1 => ?_)
    · obtain ⟨a9, ha9, rfl⟩ := hR9
      simp only [valsO, List.cons.injEq, and_true] at hos9
      have hlow : LowQ g0 [] ob0 o9 := LowQ.trans (by (try dsimp only); repeat (first | exact hlow | exact LowQ.refl | refine LowQ.or_ ?_ (by assumption) | refine LowQ.up ?_ (by omega) | refine LowQ.at_ ?_ (by simp))) hlw9 (by first | (dsimp only; omega) | omega) (fun k hk => by simp only [List.mem_cons, List.not_mem_nil, or_false] at hk; subst hk; right; (try dsimp only); omega)
      have hne : (g0 + 1 = h9 + 1 + 1) = False := eq_false (by omega)
      have hE := (⟨hos9, hne⟩ : _ ∧ _)
      (repeat (first | with_reducible refine Tr.then_panic ?_ | with_reducible refine Tr.block_panic ?_))
      refine p_xPD ?_
      refine p_recovers (fltV a9) (hb := ⟨Try.func29, by kernel_rfl, rfl⟩) (hnt := Try.ntmps29) (hle := by simp) (hops := rfl) (hd1 := by decide) (hd2 := by decide) (hm := .inl rfl) (hxv := rfl) (h := fun a0 => ?_)
      refine p_go fun hf => ?_
      refine p_eqIface (ht := Try.underlying20) (h := ?_)
      refine p_go fun hf => ?_
      refine p_asIface (v := .agg #[.int .i64 (a9 : Int)]) (ht := Try.underlying62) (hu := by intro ms h; cases h) (h := ?_)
      refine p_go fun hf => ?_
      refine p_build (hi := F.ti25.h) (hpl := F.pl25.h) (h := ?_)
      (first | refine p_fieldPtr (hf := F.fld62_0.h) (h := ?_) | refine p_fieldRef (hf := F.fld62_0.h) (h := ?_) | refine p_fieldRow (hf := F.fld62_0.h) (h := ?_))
      (first | refine p_load (ht := F.leaf3.h) (h := ?_) | refine p_loadRef (ht := F.leaf3.h) (h := ?_))
      refine p_storeAll F.ti25.h (h := ?_)
      refine p_store1 F.ti3.h (h := ?_)
      refine p_store1 F.ti26.h (h := ?_)
      refine p_endD ?_
      refine p_cellNil (g1 := g0 + 1) (d1 := 2) (i := 2) (el := 25) (h := ?_)
      refine p_retS (p_retE0 rfl ?_)
      refine p_leftP (p_retP ?_)
      refine p_retW3 (v1 := rxA zeroR) (v2 := inV (a9)) (v3 := iV (70)) rfl (w_agg eV_ oB_ F.agg25.h F.ti25.h rfl) (w_leaf eV_ oB_ F.leaf3.h rfl) (w_leaf eV_ oB_ F.leaf26.h rfl) (hK0 _ _ _ (by first | (dsimp only; omega) | omega) (by (try dsimp only); repeat (first | exact hlow | exact LowQ.refl | refine LowQ.or_ ?_ (by assumption) | refine LowQ.up ?_ (by omega) | refine LowQ.at_ ?_ (by simp))) (by rw [parO, parseV_bad hn ha9]))
    obtain ⟨x1, j1, d1, hp1, rfl, hv1⟩ := hR1
    simp only [valsO, List.cons.injEq, and_true] at hv1 hos1
    have hlow : LowQ g0 [] ob0 o1 := LowQ.trans (by (try dsimp only); repeat (first | exact hlow | exact LowQ.refl | refine LowQ.or_ ?_ (by assumption) | refine LowQ.up ?_ (by omega) | refine LowQ.at_ ?_ (by simp))) hlw1 (by first | (dsimp only; omega) | omega) (fun k hk => by simp only [List.mem_cons, List.not_mem_nil, or_false] at hk; subst hk; right; (try dsimp only); omega)
    have hle1 := (pr_le s (5 * s.size + 4)).1 0 0 false (Nat.zero_le _)
    rw [hp1] at hle1
    obtain ⟨hji1, hj1, hsz1⟩ := hle1
    have hsm : x1.Sm := Sm_of_sz x1 (by omega)
    have hE := (⟨hos1, hv1⟩ : _ ∧ _)
    refine p_bump fun hf => ?_
    refine p_go fun hf => ?_
    refine p_nilChk (h := ?_)
    refine p_go ?_
    refine p_splitC (s := 25) (ht := fun hc25 => ?_) (hf := fun hc25 => ?_)
    · have hj : j1 < s.size := by have h := hc25; simp at h; omega
      have hne : (g0 + 1 = h1 + 1 + 1 + 1 + 1 + 1) = False := eq_false (by omega)
      have hE := (⟨hos1, hv1, hne⟩ : _ ∧ _ ∧ _)
      refine p_go fun hf => ?_
      refine p_nilChk (h := ?_)
      refine p_go fun hf => ?_
      refine p_build (hi := F.ti62.h) (hpl := F.pl62.h) (h := ?_)
      refine p_mkIface (.agg #[.int .i64 (j1 : Int)]) (ht := Try.underlying62) (hu := by intro ms h; cases h) (h := ?_)
      refine p_panic (h := ?_)
      refine p_xPD ?_
      refine p_recovers (fltV j1) (hb := ⟨Try.func29, by kernel_rfl, rfl⟩) (hnt := Try.ntmps29) (hle := by simp) (hops := rfl) (hd1 := by decide) (hd2 := by decide) (hm := .inl rfl) (hxv := rfl) (h := fun a0 => ?_)
      refine p_go fun hf => ?_
      refine p_eqIface (ht := Try.underlying20) (h := ?_)
      refine p_go fun hf => ?_
      refine p_asIface (v := .agg #[.int .i64 (j1 : Int)]) (ht := Try.underlying62) (hu := by intro ms h; cases h) (h := ?_)
      refine p_go fun hf => ?_
      refine p_build (hi := F.ti25.h) (hpl := F.pl25.h) (h := ?_)
      (first | refine p_fieldPtr (hf := F.fld62_0.h) (h := ?_) | refine p_fieldRef (hf := F.fld62_0.h) (h := ?_) | refine p_fieldRow (hf := F.fld62_0.h) (h := ?_))
      (first | refine p_load (ht := F.leaf3.h) (h := ?_) | refine p_loadRef (ht := F.leaf3.h) (h := ?_))
      refine p_storeAll F.ti25.h (h := ?_)
      refine p_store1 F.ti3.h (h := ?_)
      refine p_store1 F.ti26.h (h := ?_)
      refine p_endD ?_
      refine p_cellNil (g1 := g0 + 1) (d1 := 2) (i := 2) (el := 25) (h := ?_)
      refine p_retS (p_retE0 rfl ?_)
      refine p_leftP (p_retP ?_)
      refine p_retW3 (v1 := rxA zeroR) (v2 := inV (j1)) (v3 := iV (70)) rfl (w_agg eV_ oB_ F.agg25.h F.ti25.h rfl) (w_leaf eV_ oB_ F.leaf3.h rfl) (w_leaf eV_ oB_ F.leaf26.h rfl) (hK0 _ _ _ (by first | (dsimp only; omega) | omega) (by (try dsimp only); repeat (first | exact hlow | exact LowQ.refl | refine LowQ.or_ ?_ (by assumption) | refine LowQ.up ?_ (by omega) | refine LowQ.at_ ?_ (by simp))) (by rw [parO, parseV_more hn hp1 hj]))
    · have hj : ¬ j1 < s.size := by have h := hc25; simp at h; omega
      refine p_go fun hf => ?_
      refine p_nilChk (h := ?_)
      refine p_go fun hf => ?_
      refine p_split (s := 37) (ht := fun hb37 => ?_) (hf := fun hb37 => ?_)
      · have hd : d1 = true := hb37
        refine p_go fun hf => ?_
        refine p_build (hi := F.ti25.h) (hpl := F.pl25.h) (h := ?_)
        refine p_storeAll F.ti25.h (h := ?_)
        refine p_store1 F.ti3.h (h := ?_)
        refine p_store1 F.ti26.h (h := ?_)
        refine p_end ?_
        refine TrC.ret ?_
        refine p_cellNil (g1 := g0 + 1) (d1 := 2) (i := 2) (el := 25) (h := ?_)
        refine p_retPD ?_
        refine p_recovers (.nilIface) (hb := ⟨Try.func29, by kernel_rfl, rfl⟩) (hnt := Try.ntmps29) (hle := by simp) (hops := rfl) (hd1 := by decide) (hd2 := by decide) (hm := .inr ⟨rfl, rfl⟩) (hxv := rfl) (h := fun a0 => ?_)
        refine p_go fun hf => ?_
        refine p_eqNilIface (ht := Try.underlying20) (h := ?_)
        refine p_go ?_
        refine p_retS (p_retE0' rfl ?_)
        refine p_leftP (p_retP ?_)
        refine p_retW3 (v1 := rxA zeroR) (v2 := inV (0)) (v3 := iV (71)) rfl (w_agg eV_ oB_ F.agg25.h F.ti25.h rfl) (w_leaf eV_ oB_ F.leaf3.h rfl) (w_leaf eV_ oB_ F.leaf26.h rfl) (hK0 _ _ _ (by first | (dsimp only; omega) | omega) (by (try dsimp only); repeat (first | exact hlow | exact LowQ.refl | refine LowQ.or_ ?_ (by assumption) | refine LowQ.up ?_ (by omega) | refine LowQ.at_ ?_ (by simp))) (by rw [parO, parseV_deep hn hp1 hj (.inl hd)]))
      · have hd : d1 = false := hb37
        refine p_go fun hf => ?_
        refine p_call (hx := rfl) (hb := ⟨Try.func23, by kernel_rfl, rfl⟩) (hf := checkP x1 hsm) (h := ?_)
        refine p_go ?_
        refine p_splitC (s := 41) (ht := fun hc41 => ?_) (hf := fun hc41 => ?_)
        · have he : errE x1 ≠ 0 := by have h := hc41; simpa using h
          refine p_go fun hf => ?_
          refine p_build (hi := F.ti25.h) (hpl := F.pl25.h) (h := ?_)
          refine p_storeAll F.ti25.h (h := ?_)
          refine p_store1 F.ti3.h (h := ?_)
          refine p_store1 F.ti26.h (h := ?_)
          refine p_end ?_
          refine TrC.ret ?_
          refine p_cellNil (g1 := g0 + 1) (d1 := 2) (i := 2) (el := 25) (h := ?_)
          refine p_retPD ?_
          refine p_recovers (.nilIface) (hb := ⟨Try.func29, by kernel_rfl, rfl⟩) (hnt := Try.ntmps29) (hle := by simp) (hops := rfl) (hd1 := by decide) (hd2 := by decide) (hm := .inr ⟨rfl, rfl⟩) (hxv := rfl) (h := fun a0 => ?_)
          refine p_go fun hf => ?_
          refine p_eqNilIface (ht := Try.underlying20) (h := ?_)
          refine p_go ?_
          refine p_retS (p_retE0' rfl ?_)
          refine p_leftP (p_retP ?_)
          refine p_retW3 (v1 := rxA zeroR) (v2 := inV (0)) (v3 := iV (71)) rfl (w_agg eV_ oB_ F.agg25.h F.ti25.h rfl) (w_leaf eV_ oB_ F.leaf3.h rfl) (w_leaf eV_ oB_ F.leaf26.h rfl) (hK0 _ _ _ (by first | (dsimp only; omega) | omega) (by (try dsimp only); repeat (first | exact hlow | exact LowQ.refl | refine LowQ.or_ ?_ (by assumption) | refine LowQ.up ?_ (by omega) | refine LowQ.at_ ?_ (by simp))) (by rw [parO, parseV_deep hn hp1 hj (.inr he)]))
        · have he : errE x1 = 0 := by have h := hc41; simpa using h
          refine p_go ?_
          refine p_retPD ?_
          refine p_recovers (.nilIface) (hb := ⟨Try.func29, by kernel_rfl, rfl⟩) (hnt := Try.ntmps29) (hle := by simp) (hops := rfl) (hd1 := by decide) (hd2 := by decide) (hm := .inr ⟨rfl, rfl⟩) (hxv := rfl) (h := fun a0 => ?_)
          refine p_go fun hf => ?_
          refine p_eqNilIface (ht := Try.underlying20) (h := ?_)
          refine p_go ?_
          refine p_retS (p_retE0' rfl ?_)
          refine p_leftP (p_retP ?_)
          refine p_retW3 (v1 := rxA x1) (v2 := inV (0)) (v3 := iV (0)) rfl (w_agg eV_ oB_ F.agg25.h F.ti25.h rfl) (w_leaf eV_ oB_ F.leaf3.h rfl) (w_leaf eV_ oB_ F.leaf26.h rfl) (hK0 _ _ _ (by first | (dsimp only; omega) | omega) (by (try dsimp only); repeat (first | exact hlow | exact LowQ.refl | refine LowQ.or_ ?_ (by assumption) | refine LowQ.up ?_ (by omega) | refine LowQ.at_ ?_ (by simp))) (by rw [parO, parseV_ok hn hp1 hj (by rw [hd, he]; simp)]))

end Go.Proofs.Ytjdhkopjigijfaa
