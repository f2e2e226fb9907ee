/-
  NARROWER THAN 'FOR EVERY INPUT', by the rows' own cells (each row's printed sentence says how): RegexWords: loops · RegexBack: loops · RegexTurns: loops · RegexForms: loops · RegexJoins: loops.
  DERIVED. THE GIVEN ROWS OF THIS SEAT. 6 by the template 'for every input the law returns true; each argument reads behind the call as it read before'; 0 by the template 'total and deterministic' (their statements: YtjdhkopjigijfaaTotals.lean).
  GIVEN WITH THE SEED: the statements are not yours to turn. If you find one false, say at which input.
  Laid BY PROGRAM, IN A SANDBOX (cutbox-rows.mjs): the forced cells as the released guide's own fill.sh prints them over the translation a72866390cf769e2… (all of the seat's roots in one cut). By AI agents, Wed Nov 11 2026. No macro, syntax, notation, axiom, sorry.
-/
import Derived.Test.YtjdhkopjigijfaaChecked
import GoSem.Claim
import GoSem.ClaimJoined
import GoSem.ClaimMapViews
import Derived.JoinedTies
import Derived.KernelRfl
namespace Go.Proofs.Ytjdhkopjigijfaa
/- THE CELL 'sum', in the pinned program and in every row, IS THE sha256 OF THE DUMP (.gsa) THAT YtjdhkopjigijfaaProg.lean LOADS. Nothing in Lean hashes anything: it is a label: what it is worth is what the hold of that sum in a sandbox is worth. -/
noncomputable def Try.pinned : Pinned := { name := "ytjdhkopjigijfaa", sum := "a72866390cf769e293c3fa671d5ec93bc1493fdc6fb7b72044a8e4fe5e12f3ab", checked := Try.checked }
namespace Rows
def none {H : Type} : Left H := { results := [], args := [] }

/-- 'stackyardlaw07.RegexParses': WHATEVER THE INPUT: true; the input reads as it did. -/
def regexParsesSpec : ChangeSpec := { name := "regexParses", fn := fun _ => fun
  | [d] => { results := [.lit (.bool true)], args := [d] }
  | _ => none }
def regexParsesRow : OpenClaim := { program := "ytjdhkopjigijfaa", sum := "a72866390cf769e293c3fa671d5ec93bc1493fdc6fb7b72044a8e4fe5e12f3ab", func := "stackyard/stackyardlaw07.RegexParses", spec := "regexParses", inPlace := ["internal/bytealg.IndexByteString", "internal/abi.NoEscape"], unfollowed := true, recurses := true, plainKeys := false, apart := false }
def RegexParsesSaid : Prop := regexParsesRow.holds Try.pinned (OpenSpec.ofChange regexParsesSpec)

/-- ITS FALSE NEIGHBOUR: 'it returns false'. Refute it at one input. -/
def regexParsesWrong : ChangeSpec := { name := "regexParses", fn := fun _ => fun
  | [d] => { results := [.lit (.bool false)], args := [d] }
  | _ => none }
def RegexParsesWrongFalsely : Prop := regexParsesRow.holds Try.pinned (OpenSpec.ofChange regexParsesWrong)

/-- 'stackyardlaw07.RegexWords': WHATEVER THE INPUT: true; the input reads as it did. -/
def regexWordsSpec : ChangeSpec := { name := "regexWords", fn := fun _ => fun
  | [d1, d2] => { results := [.lit (.bool true)], args := [d1, d2] }
  | _ => none }
def regexWordsRow : OpenClaim := { program := "ytjdhkopjigijfaa", sum := "a72866390cf769e293c3fa671d5ec93bc1493fdc6fb7b72044a8e4fe5e12f3ab", func := "stackyard/stackyardlaw07.RegexWords", spec := "regexWords", inPlace := ["internal/bytealg.IndexByteString", "internal/abi.NoEscape"], unfollowed := true, recurses := true, loops := true, plainKeys := false, apart := false }
def RegexWordsSaid : Prop := regexWordsRow.holds Try.pinned (OpenSpec.ofChange regexWordsSpec)

/-- ITS FALSE NEIGHBOUR: 'it returns false'. Refute it at one input. -/
def regexWordsWrong : ChangeSpec := { name := "regexWords", fn := fun _ => fun
  | [d1, d2] => { results := [.lit (.bool false)], args := [d1, d2] }
  | _ => none }
def RegexWordsWrongFalsely : Prop := regexWordsRow.holds Try.pinned (OpenSpec.ofChange regexWordsWrong)

/-- 'stackyardlaw07.RegexBack': WHATEVER THE INPUT: true; the input reads as it did. -/
def regexBackSpec : ChangeSpec := { name := "regexBack", fn := fun _ => fun
  | [d] => { results := [.lit (.bool true)], args := [d] }
  | _ => none }
def regexBackRow : OpenClaim := { program := "ytjdhkopjigijfaa", sum := "a72866390cf769e293c3fa671d5ec93bc1493fdc6fb7b72044a8e4fe5e12f3ab", func := "stackyard/stackyardlaw07.RegexBack", spec := "regexBack", inPlace := ["internal/abi.NoEscape", "internal/bytealg.IndexByteString"], unfollowed := true, recurses := true, loops := true, plainKeys := false, apart := false }
def RegexBackSaid : Prop := regexBackRow.holds Try.pinned (OpenSpec.ofChange regexBackSpec)

/-- ITS FALSE NEIGHBOUR: 'it returns false'. Refute it at one input. -/
def regexBackWrong : ChangeSpec := { name := "regexBack", fn := fun _ => fun
  | [d] => { results := [.lit (.bool false)], args := [d] }
  | _ => none }
def RegexBackWrongFalsely : Prop := regexBackRow.holds Try.pinned (OpenSpec.ofChange regexBackWrong)

/-- 'stackyardlaw07.RegexTurns': WHATEVER THE INPUT: true; the input reads as it did. -/
def regexTurnsSpec : ChangeSpec := { name := "regexTurns", fn := fun _ => fun
  | [d1, d2] => { results := [.lit (.bool true)], args := [d1, d2] }
  | _ => none }
def regexTurnsRow : OpenClaim := { program := "ytjdhkopjigijfaa", sum := "a72866390cf769e293c3fa671d5ec93bc1493fdc6fb7b72044a8e4fe5e12f3ab", func := "stackyard/stackyardlaw07.RegexTurns", spec := "regexTurns", inPlace := ["internal/bytealg.IndexByteString", "internal/abi.NoEscape"], unfollowed := true, recurses := true, loops := true, plainKeys := false, apart := false }
def RegexTurnsSaid : Prop := regexTurnsRow.holds Try.pinned (OpenSpec.ofChange regexTurnsSpec)

/-- ITS FALSE NEIGHBOUR: 'it returns false'. Refute it at one input. -/
def regexTurnsWrong : ChangeSpec := { name := "regexTurns", fn := fun _ => fun
  | [d1, d2] => { results := [.lit (.bool false)], args := [d1, d2] }
  | _ => none }
def RegexTurnsWrongFalsely : Prop := regexTurnsRow.holds Try.pinned (OpenSpec.ofChange regexTurnsWrong)

/-- 'stackyardlaw07.RegexForms': WHATEVER THE INPUT: true; the input reads as it did. -/
def regexFormsSpec : ChangeSpec := { name := "regexForms", fn := fun _ => fun
  | [d1, d2] => { results := [.lit (.bool true)], args := [d1, d2] }
  | _ => none }
def regexFormsRow : OpenClaim := { program := "ytjdhkopjigijfaa", sum := "a72866390cf769e293c3fa671d5ec93bc1493fdc6fb7b72044a8e4fe5e12f3ab", func := "stackyard/stackyardlaw07.RegexForms", spec := "regexForms", inPlace := ["internal/abi.NoEscape", "internal/bytealg.IndexByteString"], unfollowed := true, recurses := true, loops := true, plainKeys := false, apart := false }
def RegexFormsSaid : Prop := regexFormsRow.holds Try.pinned (OpenSpec.ofChange regexFormsSpec)

/-- ITS FALSE NEIGHBOUR: 'it returns false'. Refute it at one input. -/
def regexFormsWrong : ChangeSpec := { name := "regexForms", fn := fun _ => fun
  | [d1, d2] => { results := [.lit (.bool false)], args := [d1, d2] }
  | _ => none }
def RegexFormsWrongFalsely : Prop := regexFormsRow.holds Try.pinned (OpenSpec.ofChange regexFormsWrong)

/-- 'stackyardlaw07.RegexJoins': WHATEVER THE INPUT: true; the input reads as it did. -/
def regexJoinsSpec : ChangeSpec := { name := "regexJoins", fn := fun _ => fun
  | [d1, d2] => { results := [.lit (.bool true)], args := [d1, d2] }
  | _ => none }
def regexJoinsRow : OpenClaim := { program := "ytjdhkopjigijfaa", sum := "a72866390cf769e293c3fa671d5ec93bc1493fdc6fb7b72044a8e4fe5e12f3ab", func := "stackyard/stackyardlaw07.RegexJoins", spec := "regexJoins", inPlace := ["internal/bytealg.IndexByteString", "internal/abi.NoEscape"], unfollowed := true, recurses := true, loops := true, plainKeys := false, apart := false }
def RegexJoinsSaid : Prop := regexJoinsRow.holds Try.pinned (OpenSpec.ofChange regexJoinsSpec)

/-- ITS FALSE NEIGHBOUR: 'it returns false'. Refute it at one input. -/
def regexJoinsWrong : ChangeSpec := { name := "regexJoins", fn := fun _ => fun
  | [d1, d2] => { results := [.lit (.bool false)], args := [d1, d2] }
  | _ => none }
def RegexJoinsWrongFalsely : Prop := regexJoinsRow.holds Try.pinned (OpenSpec.ofChange regexJoinsWrong)

/- THE SECOND FORM. 'bulk': how many values and letters a reading holds, each counted each time it is reached (what is shared counts as often as it is met; a slice's spare places count too). A statement '..UptoSaid' is the law's where the arguments, and the package variables that the reading takes, are together of bulk at most 1048576: NARROWER than '..Said'. Prove '..Said' where nothing that the law and all that it calls make is longer than what came in: it says more and counts as full. Else prove '..UptoSaid'. A law counts once. -/
mutual
def uptoBulk {H : Type} : DataW H → Nat
  | .lit (.string bytes) => bytes.length + 1
  | .lit _ => 1
  | .nil => 1
  | .ptr d => uptoBulk d + 1
  | .slice elems spare => uptoBulkAll elems + uptoBulkAll spare + 1
  | .agg parts => uptoBulkAll parts + 1
  | .iface _ d => uptoBulk d + 1
  | .map entries => uptoBulkEntries entries + 1
  | .held _ => 1
def uptoBulkAll {H : Type} : List (DataW H) → Nat
  | [] => 0
  | d :: r => uptoBulk d + uptoBulkAll r
def uptoBulkEntries {H : Type} : List (Lit × DataW H) → Nat
  | [] => 0
  | x :: r => uptoBulkEntry x + uptoBulkEntries r
def uptoBulkEntry {H : Type} : Lit × DataW H → Nat
  | (.string bytes, d) => bytes.length + uptoBulk d + 1
  | (_, d) => uptoBulk d + 1
 end
def uptoSmall : (H : Type) → List (DataW H) → Bool := fun _ ds => decide (uptoBulkAll ds ≤ 1048576)
def OpenSpec.upto (s : _root_.Go.ChangeSpec) : _root_.Go.OpenSpec := { _root_.Go.OpenSpec.ofChange s with cond := some uptoSmall }

/-- 'stackyardlaw07.RegexParses', WHERE WHAT IT READS IS OF BULK AT MOST 1048576: true; the input reads as it did. -/
def regexParsesUptoRow : OpenClaim := { program := "ytjdhkopjigijfaa", sum := "a72866390cf769e293c3fa671d5ec93bc1493fdc6fb7b72044a8e4fe5e12f3ab", func := "stackyard/stackyardlaw07.RegexParses", spec := "regexParses", inPlace := ["internal/bytealg.IndexByteString", "internal/abi.NoEscape"], unfollowed := true, recurses := true, plainKeys := false, apart := false, narrowed := true }
def RegexParsesUptoSaid : Prop := regexParsesUptoRow.holds Try.pinned (OpenSpec.upto regexParsesSpec)

/-- 'stackyardlaw07.RegexWords', WHERE WHAT IT READS IS OF BULK AT MOST 1048576: true; the input reads as it did. -/
def regexWordsUptoRow : OpenClaim := { program := "ytjdhkopjigijfaa", sum := "a72866390cf769e293c3fa671d5ec93bc1493fdc6fb7b72044a8e4fe5e12f3ab", func := "stackyard/stackyardlaw07.RegexWords", spec := "regexWords", inPlace := ["internal/bytealg.IndexByteString", "internal/abi.NoEscape"], unfollowed := true, recurses := true, loops := true, plainKeys := false, apart := false, narrowed := true }
def RegexWordsUptoSaid : Prop := regexWordsUptoRow.holds Try.pinned (OpenSpec.upto regexWordsSpec)

/-- 'stackyardlaw07.RegexBack', WHERE WHAT IT READS IS OF BULK AT MOST 1048576: true; the input reads as it did. -/
def regexBackUptoRow : OpenClaim := { program := "ytjdhkopjigijfaa", sum := "a72866390cf769e293c3fa671d5ec93bc1493fdc6fb7b72044a8e4fe5e12f3ab", func := "stackyard/stackyardlaw07.RegexBack", spec := "regexBack", inPlace := ["internal/abi.NoEscape", "internal/bytealg.IndexByteString"], unfollowed := true, recurses := true, loops := true, plainKeys := false, apart := false, narrowed := true }
def RegexBackUptoSaid : Prop := regexBackUptoRow.holds Try.pinned (OpenSpec.upto regexBackSpec)

/-- 'stackyardlaw07.RegexTurns', WHERE WHAT IT READS IS OF BULK AT MOST 1048576: true; the input reads as it did. -/
def regexTurnsUptoRow : OpenClaim := { program := "ytjdhkopjigijfaa", sum := "a72866390cf769e293c3fa671d5ec93bc1493fdc6fb7b72044a8e4fe5e12f3ab", func := "stackyard/stackyardlaw07.RegexTurns", spec := "regexTurns", inPlace := ["internal/bytealg.IndexByteString", "internal/abi.NoEscape"], unfollowed := true, recurses := true, loops := true, plainKeys := false, apart := false, narrowed := true }
def RegexTurnsUptoSaid : Prop := regexTurnsUptoRow.holds Try.pinned (OpenSpec.upto regexTurnsSpec)

/-- 'stackyardlaw07.RegexForms', WHERE WHAT IT READS IS OF BULK AT MOST 1048576: true; the input reads as it did. -/
def regexFormsUptoRow : OpenClaim := { program := "ytjdhkopjigijfaa", sum := "a72866390cf769e293c3fa671d5ec93bc1493fdc6fb7b72044a8e4fe5e12f3ab", func := "stackyard/stackyardlaw07.RegexForms", spec := "regexForms", inPlace := ["internal/abi.NoEscape", "internal/bytealg.IndexByteString"], unfollowed := true, recurses := true, loops := true, plainKeys := false, apart := false, narrowed := true }
def RegexFormsUptoSaid : Prop := regexFormsUptoRow.holds Try.pinned (OpenSpec.upto regexFormsSpec)

/-- 'stackyardlaw07.RegexJoins', WHERE WHAT IT READS IS OF BULK AT MOST 1048576: true; the input reads as it did. -/
def regexJoinsUptoRow : OpenClaim := { program := "ytjdhkopjigijfaa", sum := "a72866390cf769e293c3fa671d5ec93bc1493fdc6fb7b72044a8e4fe5e12f3ab", func := "stackyard/stackyardlaw07.RegexJoins", spec := "regexJoins", inPlace := ["internal/bytealg.IndexByteString", "internal/abi.NoEscape"], unfollowed := true, recurses := true, loops := true, plainKeys := false, apart := false, narrowed := true }
def RegexJoinsUptoSaid : Prop := regexJoinsUptoRow.holds Try.pinned (OpenSpec.upto regexJoinsSpec)

end Rows
end Go.Proofs.Ytjdhkopjigijfaa
