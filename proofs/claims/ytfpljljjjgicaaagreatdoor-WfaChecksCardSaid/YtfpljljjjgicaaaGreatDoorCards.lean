/-
  DERIVED. GIVEN WITH THE SEED: THE CARDS: each row of YtfpljljjjgicaaaGreatDoorRows.lean that lists a variable, with what it lists TIED to the program's text (the seventh form; the later family's looks); each row that meets fmt, with fmt's text TOLD by the authors' own Lean function (tested against real Go, not proved from fmt's source: count such statements apart). THE CARD IS WHAT COUNTS. Prove the row's statement (the work); the ties are given (YtfpljljjjgicaaaGreatDoorTie.lean); close each card by the builder's one call (the guide's Derived/Test/ToyasCard.lean, 'card_holds'). Laid BY PROGRAM, IN A SANDBOX (cutbox-door.mjs). By AI agents, Wed Nov 11 2026. No macro, syntax, notation, axiom, sorry.
-/
import Derived.Test.YtfpljljjjgicaaaGreatDoorRows
import GoSem.ClaimSeven
namespace Go.Proofs.YtfpljljjjgicaaaGreatDoor
namespace Rows

/-- THE TIED CARD OF 'stackyardlaw10.WfaMore'. -/
def wfaMoreCard : Claim7 := { stood := { row := wfaMoreRow, standIns := [], harness := (true, "f0492c6f9b3c67b001075cce691b68ea653631dfeaa381fffa0ea530d2e66bc0"), looks := false }, kinds := [], alts := [], laidByText := true, laidKinds := [.data], laidTests := true, laidLooks := .later }
def WfaMoreCardSaid : Prop := Claim7.holds Tryz.pinned (.plain (OpenSpec.ofChange wfaMoreSpec)) wfaMoreCard

/-- THE TIED CARD OF 'stackyardlaw10.WfaValues'. -/
def wfaValuesCard : Claim7 := { stood := { row := wfaValuesRow, standIns := [], harness := (true, "f0492c6f9b3c67b001075cce691b68ea653631dfeaa381fffa0ea530d2e66bc0"), looks := false }, kinds := [], alts := [], laidByText := true, laidKinds := [.data], laidTests := true, laidLooks := .later }
def WfaValuesCardSaid : Prop := Claim7.holds Tryz.pinned (.plain (OpenSpec.ofChange wfaValuesSpec)) wfaValuesCard

/-- THE TIED CARD OF 'stackyardlaw10.WfaPaths'. -/
def wfaPathsCard : Claim7 := { stood := { row := wfaPathsRow, standIns := [], harness := (true, "f0492c6f9b3c67b001075cce691b68ea653631dfeaa381fffa0ea530d2e66bc0"), looks := false }, kinds := [], alts := [], laidByText := true, laidKinds := [.data], laidTests := true, laidLooks := .later }
def WfaPathsCardSaid : Prop := Claim7.holds Tryz.pinned (.plain (OpenSpec.ofChange wfaPathsSpec)) wfaPathsCard

/-- THE TIED CARD OF 'stackyardlaw10.WfaMeets'. -/
def wfaMeetsCard : Claim7 := { stood := { row := wfaMeetsRow, standIns := [], harness := (true, "f0492c6f9b3c67b001075cce691b68ea653631dfeaa381fffa0ea530d2e66bc0"), looks := false }, kinds := [], alts := [], laidByText := true, laidKinds := [.data], laidTests := true, laidLooks := .later }
def WfaMeetsCardSaid : Prop := Claim7.holds Tryz.pinned (.plain (OpenSpec.ofChange wfaMeetsSpec)) wfaMeetsCard

/-- THE TIED CARD OF 'stackyardlaw10.WfaChecks'. -/
def wfaChecksCard : Claim7 := { stood := { row := wfaChecksRow, standIns := [], harness := (true, "f0492c6f9b3c67b001075cce691b68ea653631dfeaa381fffa0ea530d2e66bc0"), looks := false }, kinds := [], alts := [], laidByText := true, laidKinds := [.data], laidTests := true, laidLooks := .later }
def WfaChecksCardSaid : Prop := Claim7.holds Tryz.pinned (.plain (OpenSpec.ofChange wfaChecksSpec)) wfaChecksCard

/-- THE SECOND FORM's CARD OF 'stackyardlaw10.WfaMore'. -/
def wfaMoreUptoCard : Claim7 := { stood := { row := wfaMoreUptoRow, standIns := [], harness := (true, "f0492c6f9b3c67b001075cce691b68ea653631dfeaa381fffa0ea530d2e66bc0"), looks := false }, kinds := [], alts := [], laidByText := true, laidKinds := [.data], laidTests := true, laidLooks := .later }
def WfaMoreUptoCardSaid : Prop := Claim7.holds Tryz.pinned (.plain (OpenSpec.upto wfaMoreSpec)) wfaMoreUptoCard

/-- THE SECOND FORM's CARD OF 'stackyardlaw10.WfaValues'. -/
def wfaValuesUptoCard : Claim7 := { stood := { row := wfaValuesUptoRow, standIns := [], harness := (true, "f0492c6f9b3c67b001075cce691b68ea653631dfeaa381fffa0ea530d2e66bc0"), looks := false }, kinds := [], alts := [], laidByText := true, laidKinds := [.data], laidTests := true, laidLooks := .later }
def WfaValuesUptoCardSaid : Prop := Claim7.holds Tryz.pinned (.plain (OpenSpec.upto wfaValuesSpec)) wfaValuesUptoCard

/-- THE SECOND FORM's CARD OF 'stackyardlaw10.WfaPaths'. -/
def wfaPathsUptoCard : Claim7 := { stood := { row := wfaPathsUptoRow, standIns := [], harness := (true, "f0492c6f9b3c67b001075cce691b68ea653631dfeaa381fffa0ea530d2e66bc0"), looks := false }, kinds := [], alts := [], laidByText := true, laidKinds := [.data], laidTests := true, laidLooks := .later }
def WfaPathsUptoCardSaid : Prop := Claim7.holds Tryz.pinned (.plain (OpenSpec.upto wfaPathsSpec)) wfaPathsUptoCard

/-- THE SECOND FORM's CARD OF 'stackyardlaw10.WfaMeets'. -/
def wfaMeetsUptoCard : Claim7 := { stood := { row := wfaMeetsUptoRow, standIns := [], harness := (true, "f0492c6f9b3c67b001075cce691b68ea653631dfeaa381fffa0ea530d2e66bc0"), looks := false }, kinds := [], alts := [], laidByText := true, laidKinds := [.data], laidTests := true, laidLooks := .later }
def WfaMeetsUptoCardSaid : Prop := Claim7.holds Tryz.pinned (.plain (OpenSpec.upto wfaMeetsSpec)) wfaMeetsUptoCard

/-- THE SECOND FORM's CARD OF 'stackyardlaw10.WfaChecks'. -/
def wfaChecksUptoCard : Claim7 := { stood := { row := wfaChecksUptoRow, standIns := [], harness := (true, "f0492c6f9b3c67b001075cce691b68ea653631dfeaa381fffa0ea530d2e66bc0"), looks := false }, kinds := [], alts := [], laidByText := true, laidKinds := [.data], laidTests := true, laidLooks := .later }
def WfaChecksUptoCardSaid : Prop := Claim7.holds Tryz.pinned (.plain (OpenSpec.upto wfaChecksSpec)) wfaChecksUptoCard
end Rows
end Go.Proofs.YtfpljljjjgicaaaGreatDoor
