/-
  DERIVED. GIVEN WITH THE SEED: THE CARDS: each row of YtjjpmbaddpiamaaDoorRows.lean that lists a variable, with what it lists TIED to the program's text (the seventh form; the later family's looks); each row that meets fmt, with fmt's text TOLD by the authors' own Lean function (tested against real Go, not proved from fmt's source: count such statements apart). THE CARD IS WHAT COUNTS. Prove the row's statement (the work); the ties are given (YtjjpmbaddpiamaaDoorTie.lean); close each card by the builder's one call (the guide's Derived/Test/ToyasCard.lean, 'card_holds'). Laid BY PROGRAM, IN A SANDBOX (cutbox-door.mjs). By AI agents, Wed Nov 11 2026. No macro, syntax, notation, axiom, sorry.
-/
import Derived.Test.YtjjpmbaddpiamaaDoorRows
import GoSem.ClaimSeven
namespace Go.Proofs.YtjjpmbaddpiamaaDoor
namespace Rows

/-- THE TIED CARD OF 'stackyardlaw06.WordsStand'. -/
def wordsStandCard : Claim7 := { stood := { row := wordsStandRow, standIns := [], harness := (true, "fa4c7f7b0257487800e75f5bf57eacc12b35a014d7ce690681bb7267dae81a58"), looks := true }, kinds := [], alts := [], laidByText := true, laidKinds := [.data, .data, .data, .sentinel, .sentinel], laidTests := true, laidLooks := .later }
def WordsStandCardSaid : Prop := Claim7.holds Tryd.pinned (.plain (OpenSpec.ofChange wordsStandSpec)) wordsStandCard

/-- THE TIED CARD OF 'stackyardlaw06.WordsBetween'. -/
def wordsBetweenCard : Claim7 := { stood := { row := wordsBetweenRow, standIns := [], harness := (true, "fa4c7f7b0257487800e75f5bf57eacc12b35a014d7ce690681bb7267dae81a58"), looks := true }, kinds := [], alts := [], laidByText := true, laidKinds := [.data, .data, .data, .sentinel, .sentinel], laidTests := true, laidLooks := .later }
def WordsBetweenCardSaid : Prop := Claim7.holds Tryd.pinned (.plain (OpenSpec.ofChange wordsBetweenSpec)) wordsBetweenCard

/-- THE TIED CARD OF 'stackyardlaw20.SyntaxBlanks'. -/
def syntaxBlanksCard : Claim7 := { stood := { row := syntaxBlanksRow, standIns := [], harness := (true, "fa4c7f7b0257487800e75f5bf57eacc12b35a014d7ce690681bb7267dae81a58"), looks := true }, kinds := [], alts := [], laidByText := true, laidKinds := [.data, .data, .data, .sentinel, .sentinel], laidTests := true, laidLooks := .later }
def SyntaxBlanksCardSaid : Prop := Claim7.holds Tryd.pinned (.plain (OpenSpec.ofChange syntaxBlanksSpec)) syntaxBlanksCard

/-- THE SECOND FORM's CARD OF 'stackyardlaw06.WordsStand'. -/
def wordsStandUptoCard : Claim7 := { stood := { row := wordsStandUptoRow, standIns := [], harness := (true, "fa4c7f7b0257487800e75f5bf57eacc12b35a014d7ce690681bb7267dae81a58"), looks := true }, kinds := [], alts := [], laidByText := true, laidKinds := [.data, .data, .data, .sentinel, .sentinel], laidTests := true, laidLooks := .later }
def WordsStandUptoCardSaid : Prop := Claim7.holds Tryd.pinned (.plain (OpenSpec.upto wordsStandSpec)) wordsStandUptoCard

/-- THE SECOND FORM's CARD OF 'stackyardlaw06.WordsBetween'. -/
def wordsBetweenUptoCard : Claim7 := { stood := { row := wordsBetweenUptoRow, standIns := [], harness := (true, "fa4c7f7b0257487800e75f5bf57eacc12b35a014d7ce690681bb7267dae81a58"), looks := true }, kinds := [], alts := [], laidByText := true, laidKinds := [.data, .data, .data, .sentinel, .sentinel], laidTests := true, laidLooks := .later }
def WordsBetweenUptoCardSaid : Prop := Claim7.holds Tryd.pinned (.plain (OpenSpec.upto wordsBetweenSpec)) wordsBetweenUptoCard

/-- THE SECOND FORM's CARD OF 'stackyardlaw20.SyntaxBlanks'. -/
def syntaxBlanksUptoCard : Claim7 := { stood := { row := syntaxBlanksUptoRow, standIns := [], harness := (true, "fa4c7f7b0257487800e75f5bf57eacc12b35a014d7ce690681bb7267dae81a58"), looks := true }, kinds := [], alts := [], laidByText := true, laidKinds := [.data, .data, .data, .sentinel, .sentinel], laidTests := true, laidLooks := .later }
def SyntaxBlanksUptoCardSaid : Prop := Claim7.holds Tryd.pinned (.plain (OpenSpec.upto syntaxBlanksSpec)) syntaxBlanksUptoCard
end Rows
end Go.Proofs.YtjjpmbaddpiamaaDoor
