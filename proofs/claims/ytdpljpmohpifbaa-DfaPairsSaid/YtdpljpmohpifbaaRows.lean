/-
  No cell of these rows narrows 'for every input' (looked for: loops, veiled, ifaces, maps, wideKeys, modest, calm, conditions, laid).
  DERIVED. THE GIVEN ROWS OF THIS SEAT. 5 by the template 'for every input the law returns true; each argument reads behind the call as it read before'; 0 by the template 'total and deterministic' (their statements: YtdpljpmohpifbaaTotals.lean).
  GIVEN WITH THE SEED: the statements are not yours to turn. If you find one false, say at which input.
  Laid BY PROGRAM, IN A SANDBOX (cutbox-rows.mjs): the forced cells as the released guide's own fill.sh prints them over the translation 6c15937b5124b7d8… (all of the seat's roots in one cut). By AI agents, Wed Nov 11 2026. No macro, syntax, notation, axiom, sorry.
-/
import Derived.Test.YtdpljpmohpifbaaChecked
import GoSem.Claim
import GoSem.ClaimJoined
import GoSem.ClaimMapViews
import Derived.JoinedTies
import Derived.KernelRfl
namespace Go.Proofs.Ytdpljpmohpifbaa
/- THE CELL 'sum', in the pinned program and in every row, IS THE sha256 OF THE DUMP (.gsa) THAT YtdpljpmohpifbaaProg.lean LOADS. Nothing in Lean hashes anything: it is a label: what it is worth is what the hold of that sum in a sandbox is worth. -/
noncomputable def Try.pinned : Pinned := { name := "ytdpljpmohpifbaa", sum := "6c15937b5124b7d88e88d89bf3cec91799036711070d9c4b956fd77f3549e0a2", checked := Try.checked }
namespace Rows
def none {H : Type} : Left H := { results := [], args := [] }

/-- 'stackyardlaw09.DfaRuns': WHATEVER THE INPUT: true; the input reads as it did. -/
def dfaRunsSpec : ChangeSpec := { name := "dfaRuns", fn := fun _ => fun
  | [d1, d2, d3] => { results := [.lit (.bool true)], args := [d1, d2, d3] }
  | _ => none }
def dfaRunsRow : OpenClaim := { program := "ytdpljpmohpifbaa", sum := "6c15937b5124b7d88e88d89bf3cec91799036711070d9c4b956fd77f3549e0a2", func := "stackyard/stackyardlaw09.DfaRuns", spec := "dfaRuns", unfollowed := true, recurses := true, plainKeys := false, apart := false }
def DfaRunsSaid : Prop := dfaRunsRow.holds Try.pinned (OpenSpec.ofChange dfaRunsSpec)

/-- ITS FALSE NEIGHBOUR: 'it returns false'. Refute it at one input. -/
def dfaRunsWrong : ChangeSpec := { name := "dfaRuns", fn := fun _ => fun
  | [d1, d2, d3] => { results := [.lit (.bool false)], args := [d1, d2, d3] }
  | _ => none }
def DfaRunsWrongFalsely : Prop := dfaRunsRow.holds Try.pinned (OpenSpec.ofChange dfaRunsWrong)

/-- 'stackyardlaw09.DfaLeast': WHATEVER THE INPUT: true; the input reads as it did. -/
def dfaLeastSpec : ChangeSpec := { name := "dfaLeast", fn := fun _ => fun
  | [d1, d2] => { results := [.lit (.bool true)], args := [d1, d2] }
  | _ => none }
def dfaLeastRow : OpenClaim := { program := "ytdpljpmohpifbaa", sum := "6c15937b5124b7d88e88d89bf3cec91799036711070d9c4b956fd77f3549e0a2", func := "stackyard/stackyardlaw09.DfaLeast", spec := "dfaLeast", unfollowed := true, recurses := true, plainKeys := false, apart := false }
def DfaLeastSaid : Prop := dfaLeastRow.holds Try.pinned (OpenSpec.ofChange dfaLeastSpec)

/-- ITS FALSE NEIGHBOUR: 'it returns false'. Refute it at one input. -/
def dfaLeastWrong : ChangeSpec := { name := "dfaLeast", fn := fun _ => fun
  | [d1, d2] => { results := [.lit (.bool false)], args := [d1, d2] }
  | _ => none }
def DfaLeastWrongFalsely : Prop := dfaLeastRow.holds Try.pinned (OpenSpec.ofChange dfaLeastWrong)

/-- 'stackyardlaw09.DfaOne': WHATEVER THE INPUT: true; the input reads as it did. -/
def dfaOneSpec : ChangeSpec := { name := "dfaOne", fn := fun _ => fun
  | [d1, d2] => { results := [.lit (.bool true)], args := [d1, d2] }
  | _ => none }
def dfaOneRow : OpenClaim := { program := "ytdpljpmohpifbaa", sum := "6c15937b5124b7d88e88d89bf3cec91799036711070d9c4b956fd77f3549e0a2", func := "stackyard/stackyardlaw09.DfaOne", spec := "dfaOne", unfollowed := true, recurses := true, plainKeys := false, apart := false }
def DfaOneSaid : Prop := dfaOneRow.holds Try.pinned (OpenSpec.ofChange dfaOneSpec)

/-- ITS FALSE NEIGHBOUR: 'it returns false'. Refute it at one input. -/
def dfaOneWrong : ChangeSpec := { name := "dfaOne", fn := fun _ => fun
  | [d1, d2] => { results := [.lit (.bool false)], args := [d1, d2] }
  | _ => none }
def DfaOneWrongFalsely : Prop := dfaOneRow.holds Try.pinned (OpenSpec.ofChange dfaOneWrong)

/-- 'stackyardlaw09.DfaPairs': WHATEVER THE INPUT: true; the input reads as it did. -/
def dfaPairsSpec : ChangeSpec := { name := "dfaPairs", fn := fun _ => fun
  | [d1, d2] => { results := [.lit (.bool true)], args := [d1, d2] }
  | _ => none }
def dfaPairsRow : OpenClaim := { program := "ytdpljpmohpifbaa", sum := "6c15937b5124b7d88e88d89bf3cec91799036711070d9c4b956fd77f3549e0a2", func := "stackyard/stackyardlaw09.DfaPairs", spec := "dfaPairs", unfollowed := true, recurses := true, plainKeys := false, apart := false }
def DfaPairsSaid : Prop := dfaPairsRow.holds Try.pinned (OpenSpec.ofChange dfaPairsSpec)

/-- ITS FALSE NEIGHBOUR: 'it returns false'. Refute it at one input. -/
def dfaPairsWrong : ChangeSpec := { name := "dfaPairs", fn := fun _ => fun
  | [d1, d2] => { results := [.lit (.bool false)], args := [d1, d2] }
  | _ => none }
def DfaPairsWrongFalsely : Prop := dfaPairsRow.holds Try.pinned (OpenSpec.ofChange dfaPairsWrong)

/-- 'stackyardlaw09.DfaSets': WHATEVER THE INPUT: true; the input reads as it did. -/
def dfaSetsSpec : ChangeSpec := { name := "dfaSets", fn := fun _ => fun
  | [d1, d2, d3] => { results := [.lit (.bool true)], args := [d1, d2, d3] }
  | _ => none }
def dfaSetsRow : OpenClaim := { program := "ytdpljpmohpifbaa", sum := "6c15937b5124b7d88e88d89bf3cec91799036711070d9c4b956fd77f3549e0a2", func := "stackyard/stackyardlaw09.DfaSets", spec := "dfaSets", unfollowed := true, recurses := true, plainKeys := false, apart := false }
def DfaSetsSaid : Prop := dfaSetsRow.holds Try.pinned (OpenSpec.ofChange dfaSetsSpec)

/-- ITS FALSE NEIGHBOUR: 'it returns false'. Refute it at one input. -/
def dfaSetsWrong : ChangeSpec := { name := "dfaSets", fn := fun _ => fun
  | [d1, d2, d3] => { results := [.lit (.bool false)], args := [d1, d2, d3] }
  | _ => none }
def DfaSetsWrongFalsely : Prop := dfaSetsRow.holds Try.pinned (OpenSpec.ofChange dfaSetsWrong)

/- THE SECOND FORM. 'bulk': how many values and letters a reading holds, each counted each time it is reached (what is shared counts as often as it is met; a slice's spare places count too). A statement '..UptoSaid' is the law's where the arguments, and the package variables that the reading takes, are together of bulk at most 1048576: NARROWER than '..Said'. Prove '..Said' where nothing that the law and all that it calls make is longer than what came in: it says more and counts as full. Else prove '..UptoSaid'. A law counts once. -/
mutual
def uptoBulk {H : Type} : DataW H → Nat
  | .lit (.string bytes) => bytes.length + 1
  | .lit _ => 1
  | .nil => 1
  | .ptr d => uptoBulk d + 1
  | .slice elems spare => uptoBulkAll elems + uptoBulkAll spare + 1
  | .agg parts => uptoBulkAll parts + 1
  | .iface _ d => uptoBulk d + 1
  | .map entries => uptoBulkEntries entries + 1
  | .held _ => 1
def uptoBulkAll {H : Type} : List (DataW H) → Nat
  | [] => 0
  | d :: r => uptoBulk d + uptoBulkAll r
def uptoBulkEntries {H : Type} : List (Lit × DataW H) → Nat
  | [] => 0
  | x :: r => uptoBulkEntry x + uptoBulkEntries r
def uptoBulkEntry {H : Type} : Lit × DataW H → Nat
  | (.string bytes, d) => bytes.length + uptoBulk d + 1
  | (_, d) => uptoBulk d + 1
 end
def uptoSmall : (H : Type) → List (DataW H) → Bool := fun _ ds => decide (uptoBulkAll ds ≤ 1048576)
def OpenSpec.upto (s : _root_.Go.ChangeSpec) : _root_.Go.OpenSpec := { _root_.Go.OpenSpec.ofChange s with cond := some uptoSmall }

/-- 'stackyardlaw09.DfaRuns', WHERE WHAT IT READS IS OF BULK AT MOST 1048576: true; the input reads as it did. -/
def dfaRunsUptoRow : OpenClaim := { program := "ytdpljpmohpifbaa", sum := "6c15937b5124b7d88e88d89bf3cec91799036711070d9c4b956fd77f3549e0a2", func := "stackyard/stackyardlaw09.DfaRuns", spec := "dfaRuns", unfollowed := true, recurses := true, plainKeys := false, apart := false, narrowed := true }
def DfaRunsUptoSaid : Prop := dfaRunsUptoRow.holds Try.pinned (OpenSpec.upto dfaRunsSpec)

/-- 'stackyardlaw09.DfaLeast', WHERE WHAT IT READS IS OF BULK AT MOST 1048576: true; the input reads as it did. -/
def dfaLeastUptoRow : OpenClaim := { program := "ytdpljpmohpifbaa", sum := "6c15937b5124b7d88e88d89bf3cec91799036711070d9c4b956fd77f3549e0a2", func := "stackyard/stackyardlaw09.DfaLeast", spec := "dfaLeast", unfollowed := true, recurses := true, plainKeys := false, apart := false, narrowed := true }
def DfaLeastUptoSaid : Prop := dfaLeastUptoRow.holds Try.pinned (OpenSpec.upto dfaLeastSpec)

/-- 'stackyardlaw09.DfaOne', WHERE WHAT IT READS IS OF BULK AT MOST 1048576: true; the input reads as it did. -/
def dfaOneUptoRow : OpenClaim := { program := "ytdpljpmohpifbaa", sum := "6c15937b5124b7d88e88d89bf3cec91799036711070d9c4b956fd77f3549e0a2", func := "stackyard/stackyardlaw09.DfaOne", spec := "dfaOne", unfollowed := true, recurses := true, plainKeys := false, apart := false, narrowed := true }
def DfaOneUptoSaid : Prop := dfaOneUptoRow.holds Try.pinned (OpenSpec.upto dfaOneSpec)

/-- 'stackyardlaw09.DfaPairs', WHERE WHAT IT READS IS OF BULK AT MOST 1048576: true; the input reads as it did. -/
def dfaPairsUptoRow : OpenClaim := { program := "ytdpljpmohpifbaa", sum := "6c15937b5124b7d88e88d89bf3cec91799036711070d9c4b956fd77f3549e0a2", func := "stackyard/stackyardlaw09.DfaPairs", spec := "dfaPairs", unfollowed := true, recurses := true, plainKeys := false, apart := false, narrowed := true }
def DfaPairsUptoSaid : Prop := dfaPairsUptoRow.holds Try.pinned (OpenSpec.upto dfaPairsSpec)

/-- 'stackyardlaw09.DfaSets', WHERE WHAT IT READS IS OF BULK AT MOST 1048576: true; the input reads as it did. -/
def dfaSetsUptoRow : OpenClaim := { program := "ytdpljpmohpifbaa", sum := "6c15937b5124b7d88e88d89bf3cec91799036711070d9c4b956fd77f3549e0a2", func := "stackyard/stackyardlaw09.DfaSets", spec := "dfaSets", unfollowed := true, recurses := true, plainKeys := false, apart := false, narrowed := true }
def DfaSetsUptoSaid : Prop := dfaSetsUptoRow.holds Try.pinned (OpenSpec.upto dfaSetsSpec)

end Rows
end Go.Proofs.Ytdpljpmohpifbaa
