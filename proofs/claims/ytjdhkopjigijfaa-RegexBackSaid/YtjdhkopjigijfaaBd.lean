/-
  strings.Builder: what it holds; WriteByte, WriteString, String.
-/
import Derived.Test.YtjdhkopjigijfaaXa
import Derived.Test.YtjdhkopjigijfaaF
set_option linter.unusedSimpArgs false
set_option linter.unusedVariables false
set_option maxHeartbeats 4000000
namespace Go.Proofs.Ytjdhkopjigijfaa
open Go.RowKit
attribute [local irreducible] Wk Tr

theorem copyCheck_a (q : Nat) (v : V) : FnS Try.prog 86 [.ptr q 5 0] [(q, 5)] [.cells 88 [.any (.pointer none), v]] (fun g r o g' => r = .tup [] ∧ o q 5 = .cells 88 [.ptr q 5 0, v]) := by
  refine FnS.of (fn := Try.f86) ⟨Try.func86, by kernel_rfl, rfl⟩ Try.ntmps86 (by simp) fun w0 S0 l ob0 g0 K hrow hgl hK0 => ?_
  simp only [valsO, List.cons.injEq, and_true] at hrow
  simp only [List.mem_cons, List.not_mem_nil, or_false, forall_eq_or_imp, forall_eq, forall_const] at hgl
  have hE := hrow
  refine p_go fun hf => ?_
  refine p_nilChk (h := ?_)
  refine p_go fun hf => ?_
  refine p_ptrNil (ht := Try.underlying85) (h := ?_)
  refine p_go fun hf => ?_
  refine p_toUnsafe (hs := Try.underlying85) (hdst := Try.underlying141) (hi := F.ti88.h) (h := ?_)
  refine p_ext (hf := Try.func107) (hr := fun w S at_ cs h => ext_noEscape w S at_ cs h) (h := ?_)
  refine p_fromUnsafe (hs := Try.underlying141) (hdst := Try.underlying85) (hi := F.ti88.h) (hlies := by kernel_rfl) (h := ?_)
  refine p_nilChk (h := ?_)
  refine p_go ?_
  refine p_retS ?_
  refine p_retE0 rfl (hK0 _ _ _ (by first | (dsimp only; omega) | omega) (by (try dsimp only); repeat (first | exact hlow | exact LowQ.refl | refine LowQ.up ?_ (by omega) | refine LowQ.at_ ?_ (by simp))) (⟨rfl, oB_⟩))

theorem copyCheck_b (q : Nat) (v : V) : FnS Try.prog 86 [.ptr q 5 0] [(q, 5)] [.cells 88 [.ptr q 5 0, v]] (fun g r o g' => r = .tup [] ∧ o q 5 = .cells 88 [.ptr q 5 0, v]) := by
  refine FnS.of (fn := Try.f86) ⟨Try.func86, by kernel_rfl, rfl⟩ Try.ntmps86 (by simp) fun w0 S0 l ob0 g0 K hrow hgl hK0 => ?_
  simp only [valsO, List.cons.injEq, and_true] at hrow
  simp only [List.mem_cons, List.not_mem_nil, or_false, forall_eq_or_imp, forall_eq, forall_const] at hgl
  have hE := hrow
  refine p_go fun hf => ?_
  refine p_nilChk (h := ?_)
  refine p_go fun hf => ?_
  refine p_ptrNotNil (ht := Try.underlying85) (h := ?_)
  refine p_go fun hf => ?_
  refine p_nilChk (h := ?_)
  refine p_go fun hf => ?_
  refine p_ptrSame (ht := Try.underlying85) (hi := F.ti88.h) (h := ?_)
  refine p_go ?_
  refine p_retS ?_
  refine p_retE0 rfl (hK0 _ _ _ (by first | (dsimp only; omega) | omega) (by (try dsimp only); repeat (first | exact hlow | exact LowQ.refl | refine LowQ.up ?_ (by omega) | refine LowQ.at_ ?_ (by simp))) (⟨rfl, oB_⟩))

theorem writeByte_a (q p : Nat) (bs : List UInt8) (b : UInt8) (hb : bs.length + 1 ≤ 140737488355328) : FnS Try.prog 66 [.ptr q 5 0, byV b] [(q, 5), (p, 900)] [.cells 88 [.any (.pointer none), .row p 900 bs.length], .row 5 (bs.map byV)] (fun g r o g' => r = .any .nilIface ∧ ∃ p', g < p' ∧ p' ≤ g' ∧ o q 5 = .cells 88 [.ptr q 5 0, .row p' 900 (bs.length + 1)] ∧ o p' 900 = .row 5 ((bs ++ [b]).map byV)) := by
  refine FnS.of (fn := Try.f66) ⟨Try.func66, by kernel_rfl, rfl⟩ Try.ntmps66 (by simp) fun w0 S0 l ob0 g0 K hrow hgl hK0 => ?_
  simp only [valsO, List.cons.injEq, and_true] at hrow
  simp only [List.mem_cons, List.not_mem_nil, or_false, forall_eq_or_imp, forall_eq, forall_const] at hgl
  have hE := hrow
  refine p_go fun hf => ?_
  refine p_callX ([(p, 900)]) (hf := (copyCheck_a q (.row p 900 bs.length)).x) (hg := by simp; omega) (hos := by simp; omega) (h := fun r o1 h1 hg1 hlw1 hos1 hR1 => ?_)
  obtain ⟨rfl, hq1⟩ := hR1
  have hlow : LowQ g0 [(q, 5), (p, 900)] ob0 o1 := LowQ.trans (by (try dsimp only); repeat (first | exact hlow | exact LowQ.refl | refine LowQ.up ?_ (by omega) | refine LowQ.at_ ?_ (by simp))) hlw1 (by first | (dsimp only; omega) | omega) (fun k hk => by simp at hk; subst hk; left; simp)
  simp only [valsO, List.cons.injEq, and_true] at hos1 hq1
  have hE := (⟨hq1, hos1⟩ : _ ∧ _)
  refine p_go fun hf => ?_
  refine p_nilChk (h := ?_)
  refine p_go fun hf => ?_
  refine p_buildSlice (ht := Try.underlying86) (hi := F.ti5.h) (h := ?_)
  refine p_append (ht := Try.underlying86) (hi := F.ti5.h) (u := .row _ 13 1) (ys := [byV b]) (hnl := by simp) (hy := ⟨.inl oB_, rfl⟩) (k := bs.length + 1) (hm := by simp) (hlim := by omega) (h := ?_)
  refine p_nilChk (h := ?_)
  refine p_go ?_
  refine p_fresh fun hf => ?_
  refine p_renCell (g1 := q) (d1 := 5) (i := 1) 900 (h := ?_)
  refine p_retS ?_
  refine p_retE1 (v := .any .nilIface) rfl eV_ (hK0 _ _ _ (by first | (dsimp only; omega) | omega) (by (try dsimp only); repeat (first | exact hlow | exact LowQ.refl | refine LowQ.up ?_ (by omega) | refine LowQ.at_ ?_ (by simp))) (⟨rfl, _, by omega, Nat.le_refl _, oB_, by rw [List.map_append]; exact oB_⟩))

theorem writeString_a (q p : Nat) (bs : List UInt8) (s : ByteArray) (hb : bs.length + s.size ≤ 140737488355328) : FnS Try.prog 67 [.ptr q 5 0, .str s] [(q, 5), (p, 900)] [.cells 88 [.any (.pointer none), .row p 900 bs.length], .row 5 (bs.map byV)] (fun g r o g' => r = .tup [iV s.size, .any .nilIface] ∧ ∃ p', g < p' ∧ p' ≤ g' ∧ o q 5 = .cells 88 [.ptr q 5 0, .row p' 900 (bs.length + s.size)] ∧ o p' 900 = .row 5 ((bs ++ s.data.toList).map byV)) := by
  refine FnS.of (fn := Try.f67) ⟨Try.func67, by kernel_rfl, rfl⟩ Try.ntmps67 (by simp) fun w0 S0 l ob0 g0 K hrow hgl hK0 => ?_
  simp only [valsO, List.cons.injEq, and_true] at hrow
  simp only [List.mem_cons, List.not_mem_nil, or_false, forall_eq_or_imp, forall_eq, forall_const] at hgl
  have hE := hrow
  refine p_go fun hf => ?_
  refine p_callX ([(p, 900)]) (hf := (copyCheck_a q (.row p 900 bs.length)).x) (hg := by simp; omega) (hos := by simp; omega) (h := fun r o1 h1 hg1 hlw1 hos1 hR1 => ?_)
  obtain ⟨rfl, hq1⟩ := hR1
  have hlow : LowQ g0 [(q, 5), (p, 900)] ob0 o1 := LowQ.trans (by (try dsimp only); repeat (first | exact hlow | exact LowQ.refl | refine LowQ.up ?_ (by omega) | refine LowQ.at_ ?_ (by simp))) hlw1 (by first | (dsimp only; omega) | omega) (fun k hk => by simp at hk; subst hk; left; simp)
  simp only [valsO, List.cons.injEq, and_true] at hos1 hq1
  have hE := (⟨hq1, hos1⟩ : _ ∧ _)
  refine p_go fun hf => ?_
  refine p_nilChk (h := ?_)
  refine p_go fun hf => ?_
  refine p_appendS (ht := Try.underlying86) (hu := Try.underlying9) (hi := F.ti5.h) (hnl := by simp) (hlim := by omega) (h := ?_)
  refine p_nilChk (h := ?_)
  refine p_go ?_
  refine p_fresh fun hf => ?_
  refine p_renCell (g1 := q) (d1 := 5) (i := 1) 900 (h := ?_)
  refine p_retS ?_
  refine p_retE2 (v1 := iV s.size) (v2 := .any .nilIface) rfl eV_ eV_ (hK0 _ _ _ (by first | (dsimp only; omega) | omega) (by (try dsimp only); repeat (first | exact hlow | exact LowQ.refl | refine LowQ.up ?_ (by omega) | refine LowQ.at_ ?_ (by simp))) (⟨rfl, _, by omega, Nat.le_refl _, oB_, by rw [List.map_append]; exact oB_⟩))

theorem writeByte_b (q p : Nat) (bs : List UInt8) (b : UInt8) (hb : bs.length + 1 ≤ 140737488355328) : FnS Try.prog 66 [.ptr q 5 0, byV b] [(q, 5), (p, 900)] [.cells 88 [.ptr q 5 0, .row p 900 bs.length], .row 5 (bs.map byV)] (fun g r o g' => r = .any .nilIface ∧ ∃ p', g < p' ∧ p' ≤ g' ∧ o q 5 = .cells 88 [.ptr q 5 0, .row p' 900 (bs.length + 1)] ∧ o p' 900 = .row 5 ((bs ++ [b]).map byV)) := by
  refine FnS.of (fn := Try.f66) ⟨Try.func66, by kernel_rfl, rfl⟩ Try.ntmps66 (by simp) fun w0 S0 l ob0 g0 K hrow hgl hK0 => ?_
  simp only [valsO, List.cons.injEq, and_true] at hrow
  simp only [List.mem_cons, List.not_mem_nil, or_false, forall_eq_or_imp, forall_eq, forall_const] at hgl
  have hE := hrow
  refine p_go fun hf => ?_
  refine p_callX ([(p, 900)]) (hf := (copyCheck_b q (.row p 900 bs.length)).x) (hg := by simp; omega) (hos := by simp; omega) (h := fun r o1 h1 hg1 hlw1 hos1 hR1 => ?_)
  obtain ⟨rfl, hq1⟩ := hR1
  have hlow : LowQ g0 [(q, 5), (p, 900)] ob0 o1 := LowQ.trans (by (try dsimp only); repeat (first | exact hlow | exact LowQ.refl | refine LowQ.up ?_ (by omega) | refine LowQ.at_ ?_ (by simp))) hlw1 (by first | (dsimp only; omega) | omega) (fun k hk => by simp at hk; subst hk; left; simp)
  simp only [valsO, List.cons.injEq, and_true] at hos1 hq1
  have hE := (⟨hq1, hos1⟩ : _ ∧ _)
  refine p_go fun hf => ?_
  refine p_nilChk (h := ?_)
  refine p_go fun hf => ?_
  refine p_buildSlice (ht := Try.underlying86) (hi := F.ti5.h) (h := ?_)
  refine p_append (ht := Try.underlying86) (hi := F.ti5.h) (u := .row _ 13 1) (ys := [byV b]) (hnl := by simp) (hy := ⟨.inl oB_, rfl⟩) (k := bs.length + 1) (hm := by simp) (hlim := by omega) (h := ?_)
  refine p_nilChk (h := ?_)
  refine p_go ?_
  refine p_fresh fun hf => ?_
  refine p_renCell (g1 := q) (d1 := 5) (i := 1) 900 (h := ?_)
  refine p_retS ?_
  refine p_retE1 (v := .any .nilIface) rfl eV_ (hK0 _ _ _ (by first | (dsimp only; omega) | omega) (by (try dsimp only); repeat (first | exact hlow | exact LowQ.refl | refine LowQ.up ?_ (by omega) | refine LowQ.at_ ?_ (by simp))) (⟨rfl, _, by omega, Nat.le_refl _, oB_, by rw [List.map_append]; exact oB_⟩))

theorem writeString_b (q p : Nat) (bs : List UInt8) (s : ByteArray) (hb : bs.length + s.size ≤ 140737488355328) : FnS Try.prog 67 [.ptr q 5 0, .str s] [(q, 5), (p, 900)] [.cells 88 [.ptr q 5 0, .row p 900 bs.length], .row 5 (bs.map byV)] (fun g r o g' => r = .tup [iV s.size, .any .nilIface] ∧ ∃ p', g < p' ∧ p' ≤ g' ∧ o q 5 = .cells 88 [.ptr q 5 0, .row p' 900 (bs.length + s.size)] ∧ o p' 900 = .row 5 ((bs ++ s.data.toList).map byV)) := by
  refine FnS.of (fn := Try.f67) ⟨Try.func67, by kernel_rfl, rfl⟩ Try.ntmps67 (by simp) fun w0 S0 l ob0 g0 K hrow hgl hK0 => ?_
  simp only [valsO, List.cons.injEq, and_true] at hrow
  simp only [List.mem_cons, List.not_mem_nil, or_false, forall_eq_or_imp, forall_eq, forall_const] at hgl
  have hE := hrow
  refine p_go fun hf => ?_
  refine p_callX ([(p, 900)]) (hf := (copyCheck_b q (.row p 900 bs.length)).x) (hg := by simp; omega) (hos := by simp; omega) (h := fun r o1 h1 hg1 hlw1 hos1 hR1 => ?_)
  obtain ⟨rfl, hq1⟩ := hR1
  have hlow : LowQ g0 [(q, 5), (p, 900)] ob0 o1 := LowQ.trans (by (try dsimp only); repeat (first | exact hlow | exact LowQ.refl | refine LowQ.up ?_ (by omega) | refine LowQ.at_ ?_ (by simp))) hlw1 (by first | (dsimp only; omega) | omega) (fun k hk => by simp at hk; subst hk; left; simp)
  simp only [valsO, List.cons.injEq, and_true] at hos1 hq1
  have hE := (⟨hq1, hos1⟩ : _ ∧ _)
  refine p_go fun hf => ?_
  refine p_nilChk (h := ?_)
  refine p_go fun hf => ?_
  refine p_appendS (ht := Try.underlying86) (hu := Try.underlying9) (hi := F.ti5.h) (hnl := by simp) (hlim := by omega) (h := ?_)
  refine p_nilChk (h := ?_)
  refine p_go ?_
  refine p_fresh fun hf => ?_
  refine p_renCell (g1 := q) (d1 := 5) (i := 1) 900 (h := ?_)
  refine p_retS ?_
  refine p_retE2 (v1 := iV s.size) (v2 := .any .nilIface) rfl eV_ eV_ (hK0 _ _ _ (by first | (dsimp only; omega) | omega) (by (try dsimp only); repeat (first | exact hlow | exact LowQ.refl | refine LowQ.up ?_ (by omega) | refine LowQ.at_ ?_ (by simp))) (⟨rfl, _, by omega, Nat.le_refl _, oB_, by rw [List.map_append]; exact oB_⟩))

/-- What a builder's first cell holds. -/
def BdA (q : Nat) (a : V) : Prop := a = .any (.pointer none) ∨ a = .ptr q 5 0
/-- A builder behind a call; p: its row ahead of it. -/
def Bd (q p g : Nat) (bs : List UInt8) (o : Nat → Nat → Ob) (g' : Nat) : Prop := ∃ a p', BdA q a ∧ (p' = p ∨ g < p') ∧ p' ≤ g' ∧ o q 5 = .cells 88 [a, .row p' 900 bs.length] ∧ o p' 900 = .row 5 (bs.map byV)
theorem writeByte (q p : Nat) (a : V) (ha : BdA q a) (bs : List UInt8) (b : UInt8) (hb : bs.length + 1 ≤ 140737488355328) : FnS Try.prog 66 [.ptr q 5 0, byV b] [(q, 5), (p, 900)] [.cells 88 [a, .row p 900 bs.length], .row 5 (bs.map byV)] (fun g r o g' => r = .any .nilIface ∧ Bd q p g (bs ++ [b]) o g') := by
  rcases ha with rfl | rfl
  · refine (writeByte_a q p bs b hb).mono ?_
    rintro g r o g' ⟨h1, p', h2, h3, h4, h5⟩
    exact ⟨h1, _, p', .inr rfl, .inr h2, h3, by rw [List.length_append]; exact h4, h5⟩
  · refine (writeByte_b q p bs b hb).mono ?_
    rintro g r o g' ⟨h1, p', h2, h3, h4, h5⟩
    exact ⟨h1, _, p', .inr rfl, .inr h2, h3, by rw [List.length_append]; exact h4, h5⟩
theorem writeString (q p : Nat) (a : V) (ha : BdA q a) (bs : List UInt8) (s : ByteArray) (hb : bs.length + s.size ≤ 140737488355328) : FnS Try.prog 67 [.ptr q 5 0, .str s] [(q, 5), (p, 900)] [.cells 88 [a, .row p 900 bs.length], .row 5 (bs.map byV)] (fun g r o g' => r = .tup [iV s.size, .any .nilIface] ∧ Bd q p g (bs ++ s.data.toList) o g') := by
  have hl : s.data.toList.length = s.size := by rw [Array.length_toList]; rfl
  rcases ha with rfl | rfl
  · refine (writeString_a q p bs s hb).mono ?_
    rintro g r o g' ⟨h1, p', h2, h3, h4, h5⟩
    exact ⟨h1, _, p', .inr rfl, .inr h2, h3, by rw [List.length_append, hl]; exact h4, h5⟩
  · refine (writeString_b q p bs s hb).mono ?_
    rintro g r o g' ⟨h1, p', h2, h3, h4, h5⟩
    exact ⟨h1, _, p', .inr rfl, .inr h2, h3, by rw [List.length_append, hl]; exact h4, h5⟩

theorem bString (q p : Nat) (a : V) (bs : List UInt8) (hne : bs ≠ []) : FnS Try.prog 38 [.ptr q 5 0] [(q, 5), (p, 900)] [.cells 88 [a, .row p 900 bs.length], .row 5 (bs.map byV)] (fun g r o g' => r = .str ⟨bs.toArray⟩) := by
  refine FnS.of (fn := Try.f38) ⟨Try.func38, by kernel_rfl, rfl⟩ Try.ntmps38 (by simp) fun w0 S0 l ob0 g0 K hrow hgl hK0 => ?_
  simp only [valsO, List.cons.injEq, and_true] at hrow
  simp only [List.mem_cons, List.not_mem_nil, or_false, forall_eq_or_imp, forall_eq, forall_const] at hgl
  have hE := hrow
  refine p_go fun hf => ?_
  refine p_nilChk (h := ?_)
  refine p_go fun hf => ?_
  refine p_sliceData (hne := hne) (h := ?_)
  refine p_go fun hf => ?_
  refine p_nilChk (h := ?_)
  refine p_go fun hf => ?_
  refine p_uString (hp := Try.underlying116) (he := TI.cells F.ti5.h) (hnl := rfl) (hne := hne) (h := ?_)
  refine p_go ?_
  refine p_retS ?_
  refine p_retE1 (v := .str ⟨bs.toArray⟩) rfl eV_ (hK0 _ _ _ (by first | (dsimp only; omega) | omega) (by (try dsimp only); repeat (first | exact hlow | exact LowQ.refl | refine LowQ.up ?_ (by omega) | refine LowQ.at_ ?_ (by simp))) (rfl))

end Go.Proofs.Ytjdhkopjigijfaa
