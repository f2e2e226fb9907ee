/-
  The laws' alive.
-/
import Derived.Test.YtjdhkopjigijfaaXp
import Derived.Test.YtjdhkopjigijfaaXd
set_option linter.unusedSimpArgs false
set_option linter.unusedVariables false
set_option maxHeartbeats 4000000
namespace Go.Proofs.Ytjdhkopjigijfaa
open Go.RowKit
attribute [local irreducible] Wk Tr
def aliveS : ByteArray := ⟨#[109, 97, 105, 110, 32, 40, 102, 32, 124, 32, 103, 41, 42, 32, 33, 104]⟩
def nmR (s : ByteArray) : Rx := .mk 1 s []
def aliveR : Rx := .mk 5 ⟨#[]⟩ [nmR ⟨#[109, 97, 105, 110]⟩, .mk 7 ⟨#[]⟩ [.mk 6 ⟨#[]⟩ [nmR ⟨#[102]⟩, nmR ⟨#[103]⟩]], .mk 8 ⟨#[]⟩ [nmR ⟨#[104]⟩]]
def aliveW1 : List ByteArray := [⟨#[109, 97, 105, 110]⟩, ⟨#[103]⟩, ⟨#[103]⟩]
def aliveW2 : List ByteArray := [⟨#[109, 97, 105, 110]⟩, ⟨#[104]⟩]
theorem alive_parse : parseV aliveS = (aliveR, 0, 0) := by kernel_rfl
theorem aliveSm : aliveR.Sm := Sm_of_sz _ (by decide)
theorem alive1 : FnP Try.prog 9 [.str aliveS] [] [] (fun r vs => r = .tup [rxA aliveR, inV 0, iV 0]) (fun v vs => False) := (parseP aliveS (by decide)).mono (fun r vs h => by rw [h, parO, alive_parse]) fun _ _ h => h
theorem alive2 : FnC Try.prog 16 [rxA aliveR] (fun r => r = .tup [.str aliveS, iV 0]) := by
  have h := printP aliveR aliveSm
  rw [show printB aliveR = aliveS from by kernel_rfl, show errE aliveR = 0 from by kernel_rfl] at h
  exact h
theorem alive3 : FnC Try.prog 14 [rxA aliveR, .sl 9 (aliveW1.map V.str)] (fun r => r = .tup [.bool true, iV 0]) := by
  have h := matchP aliveR aliveSm aliveW1 (by decide)
  rw [show mtB aliveR aliveW1 = true from by kernel_rfl, show mtE aliveR aliveW1 = 0 from by kernel_rfl] at h
  exact h
theorem alive4 : FnC Try.prog 14 [rxA aliveR, .sl 9 (aliveW2.map V.str)] (fun r => r = .tup [.bool false, iV 0]) := by
  have h := matchP aliveR aliveSm aliveW2 (by decide)
  rw [show mtB aliveR aliveW2 = false from by kernel_rfl, show mtE aliveR aliveW2 = 0 from by kernel_rfl] at h
  exact h

theorem alive07  : FnC Try.prog 12 [] (fun r => r = .bool true) := by
  refine FnC.of (fn := Try.f12) ⟨Try.func12, by kernel_rfl, rfl⟩ Try.ntmps12 (by simp) fun w0 S0 => ?_
  refine p_go fun hf => ?_
  refine p_callP ([]) (hf := alive1) (hg := by simp) (hos := by simp) (hp := fun x9 o9 h9 hg9 hlw9 hos9 hR9 => hR9.elim) (h := fun r o1 h1 hg1 hlw1 hos1 hR1 => ?_)
  obtain rfl := hR1
  refine p_bump fun hf => ?_
  refine p_go fun hf => ?_
  refine p_call (hx := rfl) (hb := ⟨Try.func16, by kernel_rfl, rfl⟩) (hf := alive2) (h := ?_)
  refine p_go fun hf => ?_
  refine p_buildSlice (ht := Try.underlying34) (hi := F.ti9.h) (h := ?_)
  refine p_callRow (vs := [rxA aliveR, .sl 9 (aliveW1.map V.str)]) (h1 + 1 + 1 + 1) 22 (hb := ⟨Try.func14, by kernel_rfl, rfl⟩) (hvs := by simp [V.frz, aliveW1]) (hf := alive3) (h := ?_)
  refine p_go fun hf => ?_
  refine p_buildSlice (ht := Try.underlying34) (hi := F.ti9.h) (h := ?_)
  refine p_callRow (vs := [rxA aliveR, .sl 9 (aliveW2.map V.str)]) (h1 + 1 + 1 + 1 + 1) 28 (hb := ⟨Try.func14, by kernel_rfl, rfl⟩) (hvs := by simp [V.frz, aliveW2]) (hf := alive4) (h := ?_)
  refine p_go fun hf => ?_
  refine p_split (s := 46) (ht := fun hb46 => ?_) (hf := fun hb46 => ?_)
  · -- slot 46 is true
    refine p_go fun hf => ?_
    refine p_strOp (h := ?_)
    refine p_go ?_
    refine p_ret1 (hp := by rfl)
  · exact absurd hb46 (by decide)
end Go.Proofs.Ytjdhkopjigijfaa
