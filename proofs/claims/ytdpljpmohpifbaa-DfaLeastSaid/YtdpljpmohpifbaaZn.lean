/-
  DfaLeast, walked: it answers true for all automata.
-/
import Derived.Test.YtdpljpmohpifbaaZm
set_option linter.unusedSimpArgs false
set_option linter.unusedVariables false
namespace Go.Proofs.Ytdpljpmohpifbaa
open Go.RowKit

theorem dfaLeast (d o : Dfa) : FnC Try.prog 4 [dfaV d, dfaV o] (fun r => r = .bool true) := by
  refine FnC.of (fn := Try.f4) ⟨Try.func4, by kernel_rfl, rfl⟩ Try.ntmps4 (by simp) fun w0 S0 => ?_
  refine p_seq (p_region fun hf => ?_)
  refine p_box (h := ?_)
  refine p_box (h := ?_)
  refine p_assign (h := ?_)
  refine p_end ?_
  refine p_seq ?_
  refine p_seq (p_region fun hf => ?_)
  (first | refine p_loadA (ht := F.agg25) (hi := F.ti25) (h := ?_) | refine p_loadRefA (ht := F.agg25) (hi := F.ti25) (h := ?_))
  refine p_call (hx := rfl) (hb := ⟨Try.func8, by kernel_rfl, rfl⟩) (hf := small09 d) (h := ?_)
  refine p_not (h := ?_)
  refine p_move (h := ?_)
  refine p_split (s := 16) (ht := fun hb16 => ?_) (hf := fun hb16 => ?_)
  · -- slot 16 is true
    iterate 3 (refine p_guardNo (h := ?_))
    refine p_pick (h := ?_)
    refine p_end ?_
    refine p_condT (h := ?_)
    refine p_seq (p_region fun hf => ?_)
    refine p_call (hx := rfl) (hb := ⟨Try.func9, by kernel_rfl, rfl⟩) (hf := alive09) (h := ?_)
    refine p_assign (h := ?_)
    refine p_end ?_
    refine TrC.ret ?_
    refine p_ret1 (hp := by rfl)
  · -- slot 16 is false
    have hfit := Dfa.small_fits hb16
    have hl1 := Dfa.if_fits (d := d) (e := d.leastR) fun he => Dfa.leastR_fits (Dfa.ok_err he)
    have hl2 := Dfa.if_fits (d := d) (e := d.notR) fun he => Dfa.leastR_fits (Dfa.ok_err he).flip
    refine p_guardYes (h := ?_)
    (first | refine p_loadA (ht := F.agg25) (hi := F.ti25) (h := ?_) | refine p_loadRefA (ht := F.agg25) (hi := F.ti25) (h := ?_))
    refine p_guardYes (h := ?_)
    refine p_call (hx := rfl) (hb := ⟨Try.func8, by kernel_rfl, rfl⟩) (hf := small09 o) (h := ?_)
    refine p_guardYes (h := ?_)
    refine p_not (h := ?_)
    refine p_pick (h := ?_)
    refine p_end ?_
    refine p_splitC (s := 20) (ht := fun hc20 => ?_) (hf := fun hc20 => ?_)
    · refine p_condT (h := ?_)
      refine p_seq (p_region fun hf => ?_)
      refine p_call (hx := rfl) (hb := ⟨Try.func9, by kernel_rfl, rfl⟩) (hf := alive09) (h := ?_)
      refine p_assign (h := ?_)
      refine p_end ?_
      refine TrC.ret ?_
      refine p_ret1 (hp := by rfl)
    · refine p_condF (h := ?_)
      refine p_skip ?_
      refine p_seq (p_region fun hf => ?_)
      (first | refine p_loadA (ht := F.agg25) (hi := F.ti25) (h := ?_) | refine p_loadRefA (ht := F.agg25) (hi := F.ti25) (h := ?_))
      refine p_call (hx := rfl) (hb := ⟨Try.func17, by kernel_rfl, rfl⟩) (hf := Least09 d hfit) (h := ?_)
      refine p_move (h := ?_)
      refine p_extract (h := ?_)
      refine p_extract (h := ?_)
      refine p_alloc (hi := F.ti25) (h := ?_)
      refine p_storeAll F.ti25 (h := ?_)
      refine p_assign (h := ?_)
      refine p_end ?_
      refine p_seq (p_region fun hf => ?_)
      (first | refine p_loadA (ht := F.agg25) (hi := F.ti25) (h := ?_) | refine p_loadRefA (ht := F.agg25) (hi := F.ti25) (h := ?_))
      refine p_call (hx := rfl) (hb := ⟨Try.func18, by kernel_rfl, rfl⟩) (hf := LeastRef d hfit) (h := ?_)
      refine p_move (h := ?_)
      refine p_extract (h := ?_)
      refine p_extract (h := ?_)
      refine p_alloc (hi := F.ti25) (h := ?_)
      refine p_storeAll F.ti25 (h := ?_)
      refine p_assign (h := ?_)
      refine p_end ?_
      refine p_seq (p_region fun hf => ?_)
      (first | refine p_loadA (ht := F.agg25) (hi := F.ti25) (h := ?_) | refine p_loadRefA (ht := F.agg25) (hi := F.ti25) (h := ?_))
      refine p_call (hx := rfl) (hb := ⟨Try.func19, by kernel_rfl, rfl⟩) (hf := Not09 d hfit) (h := ?_)
      refine p_move (h := ?_)
      refine p_extract (h := ?_)
      refine p_extract (h := ?_)
      refine p_alloc (hi := F.ti25) (h := ?_)
      refine p_storeAll F.ti25 (h := ?_)
      refine p_assign (h := ?_)
      refine p_end ?_
      refine p_seq (p_region fun hf => ?_)
      (first | refine p_loadA (ht := F.agg25) (hi := F.ti25) (h := ?_) | refine p_loadRefA (ht := F.agg25) (hi := F.ti25) (h := ?_))
      refine p_call (hx := rfl) (hb := ⟨Try.func20, by kernel_rfl, rfl⟩) (hf := NotRef d hfit) (h := ?_)
      refine p_move (h := ?_)
      refine p_extract (h := ?_)
      refine p_extract (h := ?_)
      refine p_alloc (hi := F.ti25) (h := ?_)
      refine p_storeAll F.ti25 (h := ?_)
      refine p_assign (h := ?_)
      refine p_end ?_
      refine p_seq (p_draw F.mixed fun hf => ?_)
      (first | refine p_loadA (ht := F.agg25) (hi := F.ti25) (h := ?_) | refine p_loadRefA (ht := F.agg25) (hi := F.ti25) (h := ?_))
      refine p_call (hx := rfl) (hb := ⟨Try.func21, by kernel_rfl, rfl⟩) (hf := check09 d hfit) (h := ?_)
      (first | refine p_loadA (ht := F.agg25) (hi := F.ti25) (h := ?_) | refine p_loadRefA (ht := F.agg25) (hi := F.ti25) (h := ?_))
      refine p_call (hx := rfl) (hb := ⟨Try.func22, by kernel_rfl, rfl⟩) (hf := checkR d hfit) (h := ?_)
      refine p_num (h := ?_)
      refine p_move (h := ?_)
      refine p_split (s := 47) (ht := fun hb47 => ?_) (hf := fun hb47 => ?_)
      · -- slot 47 is true
        refine p_guardYes (h := ?_)
        (first | refine p_loadA (ht := F.agg25) (hi := F.ti25) (h := ?_) | refine p_loadRefA (ht := F.agg25) (hi := F.ti25) (h := ?_))
        refine p_guardYes (h := ?_)
        (first | refine p_loadA (ht := F.agg25) (hi := F.ti25) (h := ?_) | refine p_loadRefA (ht := F.agg25) (hi := F.ti25) (h := ?_))
        refine p_guardYes (h := ?_)
        refine p_call (hx := rfl) (hb := ⟨Try.func23, by kernel_rfl, rfl⟩) (hf := sameRef (if decide (d.err ≠ 0) then Dfa.zero else d.leastR) (if decide (d.err ≠ 0) then Dfa.zero else d.leastR) hl1) (h := ?_)
        refine p_pick (h := ?_)
        refine p_move (h := ?_)
        refine p_split (s := 52) (ht := fun hb52 => ?_) (hf := fun hb52 => ?_)
        · -- slot 52 is true
          refine p_guardYes (h := ?_)
          refine p_move (h := ?_)
          refine p_guardYes (h := ?_)
          refine p_move (h := ?_)
          refine p_guardYes (h := ?_)
          refine p_num (h := ?_)
          refine p_pick (h := ?_)
          refine p_move (h := ?_)
          refine p_split (s := 57) (ht := fun hb57 => ?_) (hf := fun hb57 => ?_)
          · -- slot 57 is true
            refine p_guardYes (h := ?_)
            (first | refine p_loadA (ht := F.agg25) (hi := F.ti25) (h := ?_) | refine p_loadRefA (ht := F.agg25) (hi := F.ti25) (h := ?_))
            refine p_guardYes (h := ?_)
            (first | refine p_loadA (ht := F.agg25) (hi := F.ti25) (h := ?_) | refine p_loadRefA (ht := F.agg25) (hi := F.ti25) (h := ?_))
            refine p_guardYes (h := ?_)
            refine p_call (hx := rfl) (hb := ⟨Try.func23, by kernel_rfl, rfl⟩) (hf := sameRef (if decide (d.err ≠ 0) then Dfa.zero else d.notR) (if decide (d.err ≠ 0) then Dfa.zero else d.notR) hl2) (h := ?_)
            refine p_pick (h := ?_)
            refine p_move (h := ?_)
            refine p_split (s := 62) (ht := fun hb62 => ?_) (hf := fun hb62 => ?_)
            · -- slot 62 is true
              refine p_guardYes (h := ?_)
              refine p_move (h := ?_)
              refine p_guardYes (h := ?_)
              refine p_move (h := ?_)
              refine p_guardYes (h := ?_)
              refine p_num (h := ?_)
              refine p_pick (h := ?_)
              refine p_move (h := ?_)
              refine p_split (s := 67) (ht := fun hb67 => ?_) (hf := fun hb67 => ?_)
              · -- slot 67 is true
                refine p_guardYes (h := ?_)
                (first | refine p_loadA (ht := F.agg25) (hi := F.ti25) (h := ?_) | refine p_loadRefA (ht := F.agg25) (hi := F.ti25) (h := ?_))
                refine p_guardYes (h := ?_)
                (first | refine p_loadA (ht := F.agg25) (hi := F.ti25) (h := ?_) | refine p_loadRefA (ht := F.agg25) (hi := F.ti25) (h := ?_))
                refine p_guardYes (h := ?_)
                refine p_call (hx := rfl) (hb := ⟨Try.func24, by kernel_rfl, rfl⟩) (hf := same09 d o hfit) (h := ?_)
                refine p_guardYes (h := ?_)
                (first | refine p_loadA (ht := F.agg25) (hi := F.ti25) (h := ?_) | refine p_loadRefA (ht := F.agg25) (hi := F.ti25) (h := ?_))
                refine p_guardYes (h := ?_)
                (first | refine p_loadA (ht := F.agg25) (hi := F.ti25) (h := ?_) | refine p_loadRefA (ht := F.agg25) (hi := F.ti25) (h := ?_))
                refine p_guardYes (h := ?_)
                refine p_call (hx := rfl) (hb := ⟨Try.func23, by kernel_rfl, rfl⟩) (hf := sameRef d o hfit) (h := ?_)
                refine p_guardYes (h := ?_)
                refine p_eqB (ht := Try.underlying4) (h := ?_)
                refine p_pick (h := ?_)
                refine p_move (h := ?_)
                refine p_split (s := 76) (ht := fun hb76 => ?_) (hf := fun hb76 => ?_)
                · -- slot 76 is true
                  refine p_guardYes (h := ?_)
                  (first | refine p_loadA (ht := F.agg25) (hi := F.ti25) (h := ?_) | refine p_loadRefA (ht := F.agg25) (hi := F.ti25) (h := ?_))
                  refine p_guardYes (h := ?_)
                  (first | refine p_loadA (ht := F.agg25) (hi := F.ti25) (h := ?_) | refine p_loadRefA (ht := F.agg25) (hi := F.ti25) (h := ?_))
                  refine p_guardYes (h := ?_)
                  refine p_call (hx := rfl) (hb := ⟨Try.func24, by kernel_rfl, rfl⟩) (hf := same09 d d hfit) (h := ?_)
                  refine p_pick (h := ?_)
                  refine p_move (h := ?_)
                  refine p_split (s := 81) (ht := fun hb81 => ?_) (hf := fun hb81 => ?_)
                  · -- slot 81 is true
                    refine p_guardYes (h := ?_)
                    refine p_call (hx := rfl) (hb := ⟨Try.func9, by kernel_rfl, rfl⟩) (hf := alive09) (h := ?_)
                    refine p_pick (h := ?_)
                    refine p_assign (h := ?_)
                    refine p_endD ?_
                    refine TrC.ret ?_
                    refine p_ret1 (hp := by rfl)
                  · exact absurd hb81 (by rw [sameD_refl]; decide)
                · exact absurd hb76 (by simp)
              · exact absurd hb67 (by simp)
            · exact absurd hb62 (by rw [sameD_refl]; decide)
          · exact absurd hb57 (by simp)
        · exact absurd hb52 (by rw [sameD_refl]; decide)
      · exact absurd hb47 (by simp)
end Go.Proofs.Ytdpljpmohpifbaa
