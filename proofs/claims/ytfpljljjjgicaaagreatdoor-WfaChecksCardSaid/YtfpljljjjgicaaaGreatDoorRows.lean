/-
  NARROWER THAN 'FOR EVERY INPUT', by the rows' own cells (each row's printed sentence says how): WfaMore: loops, laid · WfaValues: loops, laid · WfaPaths: loops, laid · WfaMeets: loops, laid · WfaChecks: loops, laid.
  DERIVED. THE GIVEN ROWS OF THIS SEAT. 5 by the template 'for every input the law returns true; each argument reads behind the call as it read before'; 0 by the template 'total and deterministic' (their statements: YtfpljljjjgicaaaGreatDoorTotals.lean).
  GIVEN WITH THE SEED: the statements are not yours to turn. If you find one false, say at which input.
  Laid BY PROGRAM, IN A SANDBOX (cutbox-rows.mjs): the forced cells as the released guide's own fill.sh prints them over the translation b0ec7b5132a81d1d… (all of the seat's roots in one cut). By AI agents, Wed Nov 11 2026. No macro, syntax, notation, axiom, sorry.
-/
import Derived.Test.YtfpljljjjgicaaaGreatDoorChecked
import GoSem.Claim
import GoSem.ClaimJoined
import GoSem.ClaimMapViews
import Derived.JoinedTies
import Derived.KernelRfl
namespace Go.Proofs.YtfpljljjjgicaaaGreatDoor
/- THE CELL 'sum', in the pinned program and in every row, IS THE sha256 OF THE DUMP (.gsa) THAT YtfpljljjjgicaaaGreatDoorProg.lean LOADS. Nothing in Lean hashes anything: it is a label: what it is worth is what the hold of that sum in a sandbox is worth. -/
noncomputable def Tryz.pinned : Pinned := { name := "ytfpljljjjgicaaagreatdoor", sum := "b0ec7b5132a81d1df179b5d0e5fb4de06866d5d85871be571722338d78b84b05", checked := Tryz.checked }
namespace Rows
def none {H : Type} : Left H := { results := [], args := [] }

/- WHAT THE LISTED PACKAGE-LEVEL VARIABLES READ AS WHEN THE CALL BEGINS. Each datum BY PROGRAM (the guide's laid-datum.mjs) off the statement by which the dump's own 'gosem.cut.vars' lays the variable. In a bare row this is a premise. The card (YtfpljljjjgicaaaGreatDoorCards.lean) ties it to the program's text. -/
def laid_math_bits_deBruijn64tab {H : Type} : DataW H := .agg [.lit (.int .u8 0), .lit (.int .u8 1), .lit (.int .u8 56), .lit (.int .u8 2), .lit (.int .u8 57), .lit (.int .u8 49), .lit (.int .u8 28), .lit (.int .u8 3), .lit (.int .u8 61), .lit (.int .u8 58), .lit (.int .u8 42), .lit (.int .u8 50), .lit (.int .u8 38), .lit (.int .u8 29), .lit (.int .u8 17), .lit (.int .u8 4), .lit (.int .u8 62), .lit (.int .u8 47), .lit (.int .u8 59), .lit (.int .u8 36), .lit (.int .u8 45), .lit (.int .u8 43), .lit (.int .u8 51), .lit (.int .u8 22), .lit (.int .u8 53), .lit (.int .u8 39), .lit (.int .u8 33), .lit (.int .u8 30), .lit (.int .u8 24), .lit (.int .u8 18), .lit (.int .u8 12), .lit (.int .u8 5), .lit (.int .u8 63), .lit (.int .u8 55), .lit (.int .u8 48), .lit (.int .u8 27), .lit (.int .u8 60), .lit (.int .u8 41), .lit (.int .u8 37), .lit (.int .u8 16), .lit (.int .u8 46), .lit (.int .u8 35), .lit (.int .u8 44), .lit (.int .u8 21), .lit (.int .u8 52), .lit (.int .u8 32), .lit (.int .u8 23), .lit (.int .u8 11), .lit (.int .u8 54), .lit (.int .u8 26), .lit (.int .u8 40), .lit (.int .u8 15), .lit (.int .u8 34), .lit (.int .u8 20), .lit (.int .u8 31), .lit (.int .u8 10), .lit (.int .u8 25), .lit (.int .u8 14), .lit (.int .u8 19), .lit (.int .u8 9), .lit (.int .u8 13), .lit (.int .u8 8), .lit (.int .u8 7), .lit (.int .u8 6)]

/-- 'stackyardlaw10.WfaMore': WHATEVER THE INPUT: true; the input reads as it did. -/
def wfaMoreSpec : ChangeSpec := { name := "wfaMore", fn := fun _ => fun
  | [d1, d2, d3, d4, d5] => { results := [.lit (.bool true)], args := [d1, d2, d3, d4, d5] }
  | _ => none }
def wfaMoreRow : OpenClaim := { program := "ytfpljljjjgicaaagreatdoor", sum := "b0ec7b5132a81d1df179b5d0e5fb4de06866d5d85871be571722338d78b84b05", func := "stackyard/stackyardlaw10.WfaMore", spec := "wfaMore", unfollowed := true, recurses := true, named := ["math/bits.deBruijn64tab"], loops := true, plainKeys := false, apart := false, laid := [("math/bits.deBruijn64tab", laid_math_bits_deBruijn64tab)] }
def WfaMoreSaid : Prop := wfaMoreRow.holds Tryz.pinned (OpenSpec.ofChange wfaMoreSpec)

/-- ITS FALSE NEIGHBOUR: 'it returns false'. Refute it at one input. -/
def wfaMoreWrong : ChangeSpec := { name := "wfaMore", fn := fun _ => fun
  | [d1, d2, d3, d4, d5] => { results := [.lit (.bool false)], args := [d1, d2, d3, d4, d5] }
  | _ => none }
def WfaMoreWrongFalsely : Prop := wfaMoreRow.holds Tryz.pinned (OpenSpec.ofChange wfaMoreWrong)

/-- 'stackyardlaw10.WfaValues': WHATEVER THE INPUT: true; the input reads as it did. -/
def wfaValuesSpec : ChangeSpec := { name := "wfaValues", fn := fun _ => fun
  | [d1, d2, d3, d4] => { results := [.lit (.bool true)], args := [d1, d2, d3, d4] }
  | _ => none }
def wfaValuesRow : OpenClaim := { program := "ytfpljljjjgicaaagreatdoor", sum := "b0ec7b5132a81d1df179b5d0e5fb4de06866d5d85871be571722338d78b84b05", func := "stackyard/stackyardlaw10.WfaValues", spec := "wfaValues", unfollowed := true, recurses := true, named := ["math/bits.deBruijn64tab"], loops := true, plainKeys := false, apart := false, laid := [("math/bits.deBruijn64tab", laid_math_bits_deBruijn64tab)] }
def WfaValuesSaid : Prop := wfaValuesRow.holds Tryz.pinned (OpenSpec.ofChange wfaValuesSpec)

/-- ITS FALSE NEIGHBOUR: 'it returns false'. Refute it at one input. -/
def wfaValuesWrong : ChangeSpec := { name := "wfaValues", fn := fun _ => fun
  | [d1, d2, d3, d4] => { results := [.lit (.bool false)], args := [d1, d2, d3, d4] }
  | _ => none }
def WfaValuesWrongFalsely : Prop := wfaValuesRow.holds Tryz.pinned (OpenSpec.ofChange wfaValuesWrong)

/-- 'stackyardlaw10.WfaPaths': WHATEVER THE INPUT: true; the input reads as it did. -/
def wfaPathsSpec : ChangeSpec := { name := "wfaPaths", fn := fun _ => fun
  | [d1, d2, d3, d4] => { results := [.lit (.bool true)], args := [d1, d2, d3, d4] }
  | _ => none }
def wfaPathsRow : OpenClaim := { program := "ytfpljljjjgicaaagreatdoor", sum := "b0ec7b5132a81d1df179b5d0e5fb4de06866d5d85871be571722338d78b84b05", func := "stackyard/stackyardlaw10.WfaPaths", spec := "wfaPaths", unfollowed := true, recurses := true, named := ["math/bits.deBruijn64tab"], loops := true, plainKeys := false, apart := false, laid := [("math/bits.deBruijn64tab", laid_math_bits_deBruijn64tab)] }
def WfaPathsSaid : Prop := wfaPathsRow.holds Tryz.pinned (OpenSpec.ofChange wfaPathsSpec)

/-- ITS FALSE NEIGHBOUR: 'it returns false'. Refute it at one input. -/
def wfaPathsWrong : ChangeSpec := { name := "wfaPaths", fn := fun _ => fun
  | [d1, d2, d3, d4] => { results := [.lit (.bool false)], args := [d1, d2, d3, d4] }
  | _ => none }
def WfaPathsWrongFalsely : Prop := wfaPathsRow.holds Tryz.pinned (OpenSpec.ofChange wfaPathsWrong)

/-- 'stackyardlaw10.WfaMeets': WHATEVER THE INPUT: true; the input reads as it did. -/
def wfaMeetsSpec : ChangeSpec := { name := "wfaMeets", fn := fun _ => fun
  | [d1, d2, d3, d4, d5] => { results := [.lit (.bool true)], args := [d1, d2, d3, d4, d5] }
  | _ => none }
def wfaMeetsRow : OpenClaim := { program := "ytfpljljjjgicaaagreatdoor", sum := "b0ec7b5132a81d1df179b5d0e5fb4de06866d5d85871be571722338d78b84b05", func := "stackyard/stackyardlaw10.WfaMeets", spec := "wfaMeets", unfollowed := true, recurses := true, named := ["math/bits.deBruijn64tab"], loops := true, plainKeys := false, apart := false, laid := [("math/bits.deBruijn64tab", laid_math_bits_deBruijn64tab)] }
def WfaMeetsSaid : Prop := wfaMeetsRow.holds Tryz.pinned (OpenSpec.ofChange wfaMeetsSpec)

/-- ITS FALSE NEIGHBOUR: 'it returns false'. Refute it at one input. -/
def wfaMeetsWrong : ChangeSpec := { name := "wfaMeets", fn := fun _ => fun
  | [d1, d2, d3, d4, d5] => { results := [.lit (.bool false)], args := [d1, d2, d3, d4, d5] }
  | _ => none }
def WfaMeetsWrongFalsely : Prop := wfaMeetsRow.holds Tryz.pinned (OpenSpec.ofChange wfaMeetsWrong)

/-- 'stackyardlaw10.WfaChecks': WHATEVER THE INPUT: true; the input reads as it did. -/
def wfaChecksSpec : ChangeSpec := { name := "wfaChecks", fn := fun _ => fun
  | [d1, d2] => { results := [.lit (.bool true)], args := [d1, d2] }
  | _ => none }
def wfaChecksRow : OpenClaim := { program := "ytfpljljjjgicaaagreatdoor", sum := "b0ec7b5132a81d1df179b5d0e5fb4de06866d5d85871be571722338d78b84b05", func := "stackyard/stackyardlaw10.WfaChecks", spec := "wfaChecks", unfollowed := true, recurses := true, named := ["math/bits.deBruijn64tab"], loops := true, plainKeys := false, apart := false, laid := [("math/bits.deBruijn64tab", laid_math_bits_deBruijn64tab)] }
def WfaChecksSaid : Prop := wfaChecksRow.holds Tryz.pinned (OpenSpec.ofChange wfaChecksSpec)

/-- ITS FALSE NEIGHBOUR: 'it returns false'. Refute it at one input. -/
def wfaChecksWrong : ChangeSpec := { name := "wfaChecks", fn := fun _ => fun
  | [d1, d2] => { results := [.lit (.bool false)], args := [d1, d2] }
  | _ => none }
def WfaChecksWrongFalsely : Prop := wfaChecksRow.holds Tryz.pinned (OpenSpec.ofChange wfaChecksWrong)

/- THE SECOND FORM. 'bulk': how many values and letters a reading holds, each counted each time it is reached (what is shared counts as often as it is met; a slice's spare places count too). A statement '..UptoSaid' is the law's where the arguments, and the package variables that the reading takes, are together of bulk at most 1048576: NARROWER than '..Said'. Prove '..Said' where nothing that the law and all that it calls make is longer than what came in: it says more and counts as full. Else prove '..UptoSaid'. A law counts once. -/
mutual
def uptoBulk {H : Type} : DataW H → Nat
  | .lit (.string bytes) => bytes.length + 1
  | .lit _ => 1
  | .nil => 1
  | .ptr d => uptoBulk d + 1
  | .slice elems spare => uptoBulkAll elems + uptoBulkAll spare + 1
  | .agg parts => uptoBulkAll parts + 1
  | .iface _ d => uptoBulk d + 1
  | .map entries => uptoBulkEntries entries + 1
  | .held _ => 1
def uptoBulkAll {H : Type} : List (DataW H) → Nat
  | [] => 0
  | d :: r => uptoBulk d + uptoBulkAll r
def uptoBulkEntries {H : Type} : List (Lit × DataW H) → Nat
  | [] => 0
  | x :: r => uptoBulkEntry x + uptoBulkEntries r
def uptoBulkEntry {H : Type} : Lit × DataW H → Nat
  | (.string bytes, d) => bytes.length + uptoBulk d + 1
  | (_, d) => uptoBulk d + 1
 end
def uptoSmall : (H : Type) → List (DataW H) → Bool := fun _ ds => decide (uptoBulkAll ds ≤ 1048576)
def OpenSpec.upto (s : _root_.Go.ChangeSpec) : _root_.Go.OpenSpec := { _root_.Go.OpenSpec.ofChange s with cond := some uptoSmall }

/-- 'stackyardlaw10.WfaMore', WHERE WHAT IT READS IS OF BULK AT MOST 1048576: true; the input reads as it did. -/
def wfaMoreUptoRow : OpenClaim := { program := "ytfpljljjjgicaaagreatdoor", sum := "b0ec7b5132a81d1df179b5d0e5fb4de06866d5d85871be571722338d78b84b05", func := "stackyard/stackyardlaw10.WfaMore", spec := "wfaMore", unfollowed := true, recurses := true, named := ["math/bits.deBruijn64tab"], loops := true, plainKeys := false, apart := false, laid := [("math/bits.deBruijn64tab", laid_math_bits_deBruijn64tab)], narrowed := true }
def WfaMoreUptoSaid : Prop := wfaMoreUptoRow.holds Tryz.pinned (OpenSpec.upto wfaMoreSpec)

/-- 'stackyardlaw10.WfaValues', WHERE WHAT IT READS IS OF BULK AT MOST 1048576: true; the input reads as it did. -/
def wfaValuesUptoRow : OpenClaim := { program := "ytfpljljjjgicaaagreatdoor", sum := "b0ec7b5132a81d1df179b5d0e5fb4de06866d5d85871be571722338d78b84b05", func := "stackyard/stackyardlaw10.WfaValues", spec := "wfaValues", unfollowed := true, recurses := true, named := ["math/bits.deBruijn64tab"], loops := true, plainKeys := false, apart := false, laid := [("math/bits.deBruijn64tab", laid_math_bits_deBruijn64tab)], narrowed := true }
def WfaValuesUptoSaid : Prop := wfaValuesUptoRow.holds Tryz.pinned (OpenSpec.upto wfaValuesSpec)

/-- 'stackyardlaw10.WfaPaths', WHERE WHAT IT READS IS OF BULK AT MOST 1048576: true; the input reads as it did. -/
def wfaPathsUptoRow : OpenClaim := { program := "ytfpljljjjgicaaagreatdoor", sum := "b0ec7b5132a81d1df179b5d0e5fb4de06866d5d85871be571722338d78b84b05", func := "stackyard/stackyardlaw10.WfaPaths", spec := "wfaPaths", unfollowed := true, recurses := true, named := ["math/bits.deBruijn64tab"], loops := true, plainKeys := false, apart := false, laid := [("math/bits.deBruijn64tab", laid_math_bits_deBruijn64tab)], narrowed := true }
def WfaPathsUptoSaid : Prop := wfaPathsUptoRow.holds Tryz.pinned (OpenSpec.upto wfaPathsSpec)

/-- 'stackyardlaw10.WfaMeets', WHERE WHAT IT READS IS OF BULK AT MOST 1048576: true; the input reads as it did. -/
def wfaMeetsUptoRow : OpenClaim := { program := "ytfpljljjjgicaaagreatdoor", sum := "b0ec7b5132a81d1df179b5d0e5fb4de06866d5d85871be571722338d78b84b05", func := "stackyard/stackyardlaw10.WfaMeets", spec := "wfaMeets", unfollowed := true, recurses := true, named := ["math/bits.deBruijn64tab"], loops := true, plainKeys := false, apart := false, laid := [("math/bits.deBruijn64tab", laid_math_bits_deBruijn64tab)], narrowed := true }
def WfaMeetsUptoSaid : Prop := wfaMeetsUptoRow.holds Tryz.pinned (OpenSpec.upto wfaMeetsSpec)

/-- 'stackyardlaw10.WfaChecks', WHERE WHAT IT READS IS OF BULK AT MOST 1048576: true; the input reads as it did. -/
def wfaChecksUptoRow : OpenClaim := { program := "ytfpljljjjgicaaagreatdoor", sum := "b0ec7b5132a81d1df179b5d0e5fb4de06866d5d85871be571722338d78b84b05", func := "stackyard/stackyardlaw10.WfaChecks", spec := "wfaChecks", unfollowed := true, recurses := true, named := ["math/bits.deBruijn64tab"], loops := true, plainKeys := false, apart := false, laid := [("math/bits.deBruijn64tab", laid_math_bits_deBruijn64tab)], narrowed := true }
def WfaChecksUptoSaid : Prop := wfaChecksUptoRow.holds Tryz.pinned (OpenSpec.upto wfaChecksSpec)

end Rows
end Go.Proofs.YtfpljljjjgicaaaGreatDoor
