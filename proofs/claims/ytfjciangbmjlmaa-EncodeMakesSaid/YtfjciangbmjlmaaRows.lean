/-
  No cell of these rows narrows 'for every input' (looked for: loops, veiled, ifaces, maps, wideKeys, modest, calm, conditions, laid).
  DERIVED. THE GIVEN ROWS OF THIS SEAT. 4 by the template 'for every input the law returns true; each argument reads behind the call as it read before'; 0 by the template 'total and deterministic' (their statements: YtfjciangbmjlmaaTotals.lean).
  GIVEN WITH THE SEED: the statements are not yours to turn. If you find one false, say at which input.
  Laid BY PROGRAM, IN A SANDBOX (cutbox-rows.mjs): the forced cells as the released guide's own fill.sh prints them over the translation 383d79e25cdd0793… (all of the seat's roots in one cut). By AI agents, Wed Nov 11 2026. No macro, syntax, notation, axiom, sorry.
-/
import Derived.Test.YtfjciangbmjlmaaChecked
import GoSem.Claim
import GoSem.ClaimJoined
import GoSem.ClaimMapViews
import Derived.JoinedTies
import Derived.KernelRfl
namespace Go.Proofs.Ytfjciangbmjlmaa
/- THE CELL 'sum', in the pinned program and in every row, IS THE sha256 OF THE DUMP (.gsa) THAT YtfjciangbmjlmaaProg.lean LOADS. Nothing in Lean hashes anything: it is a label: what it is worth is what the hold of that sum in a sandbox is worth. -/
noncomputable def Try.pinned : Pinned := { name := "ytfjciangbmjlmaa", sum := "383d79e25cdd07931ba3586550df55e45aed03adbde3d4fc7252afbdbf7deb2c", checked := Try.checked }
namespace Rows
def none {H : Type} : Left H := { results := [], args := [] }

/-- 'stackyardlaw23.EncodeSteps': WHATEVER THE INPUT: true; the input reads as it did. -/
def encodeStepsSpec : ChangeSpec := { name := "encodeSteps", fn := fun _ => fun
  | [d1, d2, d3] => { results := [.lit (.bool true)], args := [d1, d2, d3] }
  | _ => none }
def encodeStepsRow : OpenClaim := { program := "ytfjciangbmjlmaa", sum := "383d79e25cdd07931ba3586550df55e45aed03adbde3d4fc7252afbdbf7deb2c", func := "stackyard/stackyardlaw23.EncodeSteps", spec := "encodeSteps", unfollowed := true, recurses := true, apart := false }
def EncodeStepsSaid : Prop := encodeStepsRow.holds Try.pinned (OpenSpec.ofChange encodeStepsSpec)

/-- ITS FALSE NEIGHBOUR: 'it returns false'. Refute it at one input. -/
def encodeStepsWrong : ChangeSpec := { name := "encodeSteps", fn := fun _ => fun
  | [d1, d2, d3] => { results := [.lit (.bool false)], args := [d1, d2, d3] }
  | _ => none }
def EncodeStepsWrongFalsely : Prop := encodeStepsRow.holds Try.pinned (OpenSpec.ofChange encodeStepsWrong)

/-- 'stackyardlaw23.EncodeConfs': WHATEVER THE INPUT: true; the input reads as it did. -/
def encodeConfsSpec : ChangeSpec := { name := "encodeConfs", fn := fun _ => fun
  | [d1, d2, d3, d4] => { results := [.lit (.bool true)], args := [d1, d2, d3, d4] }
  | _ => none }
def encodeConfsRow : OpenClaim := { program := "ytfjciangbmjlmaa", sum := "383d79e25cdd07931ba3586550df55e45aed03adbde3d4fc7252afbdbf7deb2c", func := "stackyard/stackyardlaw23.EncodeConfs", spec := "encodeConfs", unfollowed := true, recurses := true, apart := false }
def EncodeConfsSaid : Prop := encodeConfsRow.holds Try.pinned (OpenSpec.ofChange encodeConfsSpec)

/-- ITS FALSE NEIGHBOUR: 'it returns false'. Refute it at one input. -/
def encodeConfsWrong : ChangeSpec := { name := "encodeConfs", fn := fun _ => fun
  | [d1, d2, d3, d4] => { results := [.lit (.bool false)], args := [d1, d2, d3, d4] }
  | _ => none }
def EncodeConfsWrongFalsely : Prop := encodeConfsRow.holds Try.pinned (OpenSpec.ofChange encodeConfsWrong)

/-- 'stackyardlaw23.EncodeBack': WHATEVER THE INPUT: true; the input reads as it did. -/
def encodeBackSpec : ChangeSpec := { name := "encodeBack", fn := fun _ => fun
  | [d1, d2, d3] => { results := [.lit (.bool true)], args := [d1, d2, d3] }
  | _ => none }
def encodeBackRow : OpenClaim := { program := "ytfjciangbmjlmaa", sum := "383d79e25cdd07931ba3586550df55e45aed03adbde3d4fc7252afbdbf7deb2c", func := "stackyard/stackyardlaw23.EncodeBack", spec := "encodeBack", unfollowed := true, recurses := true, apart := false }
def EncodeBackSaid : Prop := encodeBackRow.holds Try.pinned (OpenSpec.ofChange encodeBackSpec)

/-- ITS FALSE NEIGHBOUR: 'it returns false'. Refute it at one input. -/
def encodeBackWrong : ChangeSpec := { name := "encodeBack", fn := fun _ => fun
  | [d1, d2, d3] => { results := [.lit (.bool false)], args := [d1, d2, d3] }
  | _ => none }
def EncodeBackWrongFalsely : Prop := encodeBackRow.holds Try.pinned (OpenSpec.ofChange encodeBackWrong)

/-- 'stackyardlaw23.EncodeMakes': WHATEVER THE INPUT: true; the input reads as it did. -/
def encodeMakesSpec : ChangeSpec := { name := "encodeMakes", fn := fun _ => fun
  | [d1, d2, d3] => { results := [.lit (.bool true)], args := [d1, d2, d3] }
  | _ => none }
def encodeMakesRow : OpenClaim := { program := "ytfjciangbmjlmaa", sum := "383d79e25cdd07931ba3586550df55e45aed03adbde3d4fc7252afbdbf7deb2c", func := "stackyard/stackyardlaw23.EncodeMakes", spec := "encodeMakes", unfollowed := true, recurses := true, apart := false }
def EncodeMakesSaid : Prop := encodeMakesRow.holds Try.pinned (OpenSpec.ofChange encodeMakesSpec)

/-- ITS FALSE NEIGHBOUR: 'it returns false'. Refute it at one input. -/
def encodeMakesWrong : ChangeSpec := { name := "encodeMakes", fn := fun _ => fun
  | [d1, d2, d3] => { results := [.lit (.bool false)], args := [d1, d2, d3] }
  | _ => none }
def EncodeMakesWrongFalsely : Prop := encodeMakesRow.holds Try.pinned (OpenSpec.ofChange encodeMakesWrong)

/- THE SECOND FORM. 'bulk': how many values and letters a reading holds, each counted each time it is reached (what is shared counts as often as it is met; a slice's spare places count too). A statement '..UptoSaid' is the law's where the arguments, and the package variables that the reading takes, are together of bulk at most 1048576: NARROWER than '..Said'. Prove '..Said' where nothing that the law and all that it calls make is longer than what came in: it says more and counts as full. Else prove '..UptoSaid'. A law counts once. -/
mutual
def uptoBulk {H : Type} : DataW H → Nat
  | .lit (.string bytes) => bytes.length + 1
  | .lit _ => 1
  | .nil => 1
  | .ptr d => uptoBulk d + 1
  | .slice elems spare => uptoBulkAll elems + uptoBulkAll spare + 1
  | .agg parts => uptoBulkAll parts + 1
  | .iface _ d => uptoBulk d + 1
  | .map entries => uptoBulkEntries entries + 1
  | .held _ => 1
def uptoBulkAll {H : Type} : List (DataW H) → Nat
  | [] => 0
  | d :: r => uptoBulk d + uptoBulkAll r
def uptoBulkEntries {H : Type} : List (Lit × DataW H) → Nat
  | [] => 0
  | x :: r => uptoBulkEntry x + uptoBulkEntries r
def uptoBulkEntry {H : Type} : Lit × DataW H → Nat
  | (.string bytes, d) => bytes.length + uptoBulk d + 1
  | (_, d) => uptoBulk d + 1
 end
def uptoSmall : (H : Type) → List (DataW H) → Bool := fun _ ds => decide (uptoBulkAll ds ≤ 1048576)
def OpenSpec.upto (s : _root_.Go.ChangeSpec) : _root_.Go.OpenSpec := { _root_.Go.OpenSpec.ofChange s with cond := some uptoSmall }

/-- 'stackyardlaw23.EncodeSteps', WHERE WHAT IT READS IS OF BULK AT MOST 1048576: true; the input reads as it did. -/
def encodeStepsUptoRow : OpenClaim := { program := "ytfjciangbmjlmaa", sum := "383d79e25cdd07931ba3586550df55e45aed03adbde3d4fc7252afbdbf7deb2c", func := "stackyard/stackyardlaw23.EncodeSteps", spec := "encodeSteps", unfollowed := true, recurses := true, apart := false, narrowed := true }
def EncodeStepsUptoSaid : Prop := encodeStepsUptoRow.holds Try.pinned (OpenSpec.upto encodeStepsSpec)

/-- 'stackyardlaw23.EncodeConfs', WHERE WHAT IT READS IS OF BULK AT MOST 1048576: true; the input reads as it did. -/
def encodeConfsUptoRow : OpenClaim := { program := "ytfjciangbmjlmaa", sum := "383d79e25cdd07931ba3586550df55e45aed03adbde3d4fc7252afbdbf7deb2c", func := "stackyard/stackyardlaw23.EncodeConfs", spec := "encodeConfs", unfollowed := true, recurses := true, apart := false, narrowed := true }
def EncodeConfsUptoSaid : Prop := encodeConfsUptoRow.holds Try.pinned (OpenSpec.upto encodeConfsSpec)

/-- 'stackyardlaw23.EncodeBack', WHERE WHAT IT READS IS OF BULK AT MOST 1048576: true; the input reads as it did. -/
def encodeBackUptoRow : OpenClaim := { program := "ytfjciangbmjlmaa", sum := "383d79e25cdd07931ba3586550df55e45aed03adbde3d4fc7252afbdbf7deb2c", func := "stackyard/stackyardlaw23.EncodeBack", spec := "encodeBack", unfollowed := true, recurses := true, apart := false, narrowed := true }
def EncodeBackUptoSaid : Prop := encodeBackUptoRow.holds Try.pinned (OpenSpec.upto encodeBackSpec)

/-- 'stackyardlaw23.EncodeMakes', WHERE WHAT IT READS IS OF BULK AT MOST 1048576: true; the input reads as it did. -/
def encodeMakesUptoRow : OpenClaim := { program := "ytfjciangbmjlmaa", sum := "383d79e25cdd07931ba3586550df55e45aed03adbde3d4fc7252afbdbf7deb2c", func := "stackyard/stackyardlaw23.EncodeMakes", spec := "encodeMakes", unfollowed := true, recurses := true, apart := false, narrowed := true }
def EncodeMakesUptoSaid : Prop := encodeMakesUptoRow.holds Try.pinned (OpenSpec.upto encodeMakesSpec)

end Rows
end Go.Proofs.Ytfjciangbmjlmaa
