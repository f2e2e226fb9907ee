import Derived.Test.YtjdhkopjigijfaaXw
import Derived.Test.YtjdhkopjigijfaaYfg
/-
  A word cut to what is looked at.
-/
set_option linter.unusedSimpArgs false
set_option linter.unusedVariables false
set_option maxHeartbeats 4000000
namespace Go.Proofs.Ytjdhkopjigijfaa
open Go.RowKit
attribute [local irreducible] Wk Tr
def cutL (w : List ByteArray) : List ByteArray := if 10 < w.length then w.take 10 else w
theorem cutL_len (w : List ByteArray) : (cutL w).length ≤ 10 := by
  unfold cutL
  split
  · rw [List.length_take]; omega
  · omega

theorem cutP (w : List ByteArray) (hw : w.length ≤ 17592186044416) : FnC Try.prog 13 [.sl 9 (w.map V.str)] (fun r => r = .sl 9 ((cutL w).map V.str)) := by
  refine FnC.of (fn := Try.f13) ⟨Try.func13, by kernel_rfl, rfl⟩ Try.ntmps13 (by simp) fun w0 S0 => ?_
  refine p_go ?_
  refine p_splitC (s := 5) (ht := fun hc5 => ?_) (hf := fun hc5 => ?_)
  · have h10 : 10 < w.length := by have := hc5; simp at this; omega
    refine p_go fun hf => ?_
    refine p_partHi (l := 10) (ys := (w.take 10).map V.str) (ht := Try.underlying34) (hi := F.ti9.h) (hl := by simp; omega) (hys := by rw [List.map_take]) (h := ?_)
    refine p_go ?_
    refine p_ret1 (hp := by rw [cutL, if_pos h10])
  · have h10 : ¬ 10 < w.length := by have := hc5; simp at this; omega
    refine p_go ?_
    refine p_ret1 (hp := by rw [cutL, if_neg h10])

end Go.Proofs.Ytjdhkopjigijfaa
/-
  RegexWords: its law as a contract.
-/
set_option linter.unusedSimpArgs false
set_option linter.unusedVariables false
set_option maxHeartbeats 4000000
namespace Go.Proofs.Ytjdhkopjigijfaa
open Go.RowKit
attribute [local irreducible] Wk Tr
theorem spansR (w : List ByteArray) (hw : w.length ≤ 100) (x : Rx) (hx : x.Sm) (hr : rightB x = true) : FnC Try.prog 36 [rxA x, .sl 9 (w.map V.str)] (fun r => r = .sl 81 (tabS 4 (w.length + 1) (w.length + 1) (spanB w x))) := by
  induction x using Rx.ind with
  | _ x ih =>
    have h1 := hr
    rw [rightB_eq, Bool.and_eq_true, List.all_eq_true] at h1
    have hrec := fun k hk => ih k hk (hx.kids k hk) (h1.1 k hk)
    by_cases e1 : x.op = 1
    · exact spans_1 w hw x hx.len e1 hrec
    by_cases e2 : x.op = 2
    · exact spans_2 w hw x hx.len e2 hrec
    by_cases e3 : x.op = 3
    · exact spans_3 w hw x hx.len e3 hrec
    by_cases e5 : x.op = 5
    · exact spans_5 w hw x hx.len e5 hrec
    by_cases e6 : x.op = 6
    · exact spans_6 w hw x hx.len e6 hrec
    by_cases e7 : x.op = 7
    · exact spans_7 w hw x hx.len e7 (right_one hr (.inl e7)) hrec
    by_cases e8 : x.op = 8
    · exact spans_8 w hw x hx.len e8 (right_one hr (.inr e8)) hrec
    · exact spans_0 w hw x hx.len ⟨e1, e2, e3, e5, e6, e7, e8⟩ hrec

theorem matchRf (x : Rx) (hs : x.Sm) (w : List ByteArray) (hwl : w.length ≤ 17592186044416) : FnC Try.prog 15 [rxA x, .sl 9 (w.map V.str)] (fun r => r = .tup [.bool (mtB x w), iV (mtE x w)]) := by
  refine FnC.of (fn := Try.f15) ⟨Try.func15, by kernel_rfl, rfl⟩ Try.ntmps15 (by simp) fun w0 S0 => ?_
  refine p_go fun hf => ?_
  refine p_call (hx := rfl) (hb := ⟨Try.func20, by kernel_rfl, rfl⟩) (hf := checkRE x hs) (h := ?_)
  refine p_go ?_
  refine p_splitC (s := 10) (ht := fun hc10 => ?_) (hf := fun hc10 => ?_)
  · have he : errE x ≠ 0 := by simpa using hc10
    refine p_go ?_
    refine p_r2 (hp := by rw [mtB, mtE, if_neg he, decide_eq_false he]; rfl)
  · have he : errE x = 0 := by simpa using hc10
    have hxok := errE_ok.1 he
    refine p_go ?_
    refine p_splitC (s := 14) (ht := fun hc14 => ?_) (hf := fun hc14 => ?_)
    · have hw : ¬ w.length ≤ 100 := by have := hc14; simp at this; omega
      refine p_go ?_
      refine p_r2 (hp := by rw [mtB, mtE, if_pos he, if_pos (by omega), decide_eq_false hw]; simp)
    · have hw : w.length ≤ 100 := by have := hc14; simp at this; omega
      refine p_go fun hf => ?_
      refine p_call (hx := rfl) (hb := ⟨Try.func36, by kernel_rfl, rfl⟩) (hf := spansR w hw x hs hxok.right) (h := ?_)
      refine p_idxSl (ht := Try.underlying83) (hi := F.ti81.h) (h0 := by omega) (hv := by exact tabS_at (by omega)) (h := ?_)
      refine p_go fun hf => ?_
      refine p_idxSl (ht := Try.underlying81) (hi := F.ti4.h) (h0 := by omega) (hv := by rw [Int.toNat_natCast]; exact bRow_at (by omega)) (h := ?_)
      refine p_go ?_
      refine p_r2 (hp := by rw [mtB, mtE, if_pos he, if_neg (by omega), decide_eq_true he, decide_eq_true hw]; rfl)

theorem regexWords (x : Rx) (hx : x.Sm) (w : List ByteArray) (hw : w.length ≤ 17592186044416) : FnC Try.prog 4 [rxA x, .sl 9 (w.map V.str)] (fun r => r = .bool true) := by
  refine FnC.of (fn := Try.f4) ⟨Try.func4, by kernel_rfl, rfl⟩ Try.ntmps4 (by simp) fun w0 S0 => ?_
  refine p_go ?_
  refine p_splitC (s := 11) (ht := fun hc11 => ?_) (hf := fun hc11 => ?_)
  · obtain ⟨w1, hw1⟩ : ∃ w1, w1 = cutL w := ⟨_, rfl⟩
    have hwl : w1.length ≤ 17592186044416 := by have := cutL_len w; rw [hw1]; omega
    refine p_go fun hf => ?_
    refine p_call (hx := rfl) (hb := ⟨Try.func13, by kernel_rfl, rfl⟩) (hf := (show FnC Try.prog 13 [.sl 9 (w.map V.str)] (fun r => r = .sl 9 (w1.map V.str)) from hw1 ▸ cutP w hw)) (h := ?_)
    refine p_go fun hf => ?_
    refine p_call (hx := rfl) (hb := ⟨Try.func14, by kernel_rfl, rfl⟩) (hf := matchP x hx w1 hwl) (h := ?_)
    refine p_go fun hf => ?_
    refine p_call (hx := rfl) (hb := ⟨Try.func15, by kernel_rfl, rfl⟩) (hf := matchRf x hx w1 hwl) (h := ?_)
    refine p_go fun hf => ?_
    refine p_eqB (ht := Try.underlying4) (h := ?_)
    refine p_go fun hf => ?_
    refine p_split (s := 34) (ht := fun hb34 => ?_) (hf := fun hb34 => ?_)
    · -- slot 34 is true
      refine p_go fun hf => ?_
      refine p_call (hx := rfl) (hb := ⟨Try.func12, by kernel_rfl, rfl⟩) (hf := alive07) (h := ?_)
      refine p_go ?_
      refine p_ret1 (hp := by rfl)
    · exact absurd hb34 (by simp)
  · obtain ⟨w1, hw1⟩ : ∃ w1, w1 = w := ⟨_, rfl⟩
    subst hw1
    have hwl := hw
    refine p_go fun hf => ?_
    refine p_call (hx := rfl) (hb := ⟨Try.func14, by kernel_rfl, rfl⟩) (hf := matchP x hx w1 hwl) (h := ?_)
    refine p_go fun hf => ?_
    refine p_call (hx := rfl) (hb := ⟨Try.func15, by kernel_rfl, rfl⟩) (hf := matchRf x hx w1 hwl) (h := ?_)
    refine p_go fun hf => ?_
    refine p_eqB (ht := Try.underlying4) (h := ?_)
    refine p_go fun hf => ?_
    refine p_split (s := 34) (ht := fun hb34 => ?_) (hf := fun hb34 => ?_)
    · -- slot 34 is true
      refine p_go fun hf => ?_
      refine p_call (hx := rfl) (hb := ⟨Try.func12, by kernel_rfl, rfl⟩) (hf := alive07) (h := ?_)
      refine p_go ?_
      refine p_ret1 (hp := by rfl)
    · exact absurd hb34 (by simp)
end Go.Proofs.Ytjdhkopjigijfaa
