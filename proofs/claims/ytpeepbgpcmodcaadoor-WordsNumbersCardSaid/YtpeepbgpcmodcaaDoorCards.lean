/-
  DERIVED. GIVEN WITH THE SEED: THE CARDS: each row of YtpeepbgpcmodcaaDoorRows.lean that lists a variable, with what it lists TIED to the program's text (the seventh form; the later family's looks); each row that meets fmt, with fmt's text TOLD by the authors' own Lean function (tested against real Go, not proved from fmt's source: count such statements apart). THE CARD IS WHAT COUNTS. Prove the row's statement (the work); the ties are given (YtpeepbgpcmodcaaDoorTie.lean); close each card by the builder's one call (the guide's Derived/Test/ToyasCard.lean, 'card_holds'). Laid BY PROGRAM, IN A SANDBOX (cutbox-door.mjs). By AI agents, Wed Nov 11 2026. No macro, syntax, notation, axiom, sorry.
-/
import Derived.Test.YtpeepbgpcmodcaaDoorRows
import GoSem.ClaimSeven
namespace Go.Proofs.YtpeepbgpcmodcaaDoor
namespace Rows

/-- THE TIED CARD OF 'gyrelaw01.WordsTells'. -/
def wordsTellsCard : Claim7 := { stood := { row := wordsTellsRow, standIns := [], harness := (true, "7a1851ab96ebf00de3bf98a49b733112e4dd0fe8360005db8245e5022dc2fa9d"), looks := false }, kinds := [], alts := [], laidByText := true, laidKinds := [.data, .data, .data, .data, .pinned], laidTests := true, laidLooks := .later }
def WordsTellsCardSaid : Prop := Claim7.holds Tryd.pinned (.plain (OpenSpec.ofChange wordsTellsSpec)) wordsTellsCard

/-- THE TIED CARD OF 'gyrelaw01.WordsBack'. -/
def wordsBackCard : Claim7 := { stood := { row := wordsBackRow, standIns := [], harness := (true, "7a1851ab96ebf00de3bf98a49b733112e4dd0fe8360005db8245e5022dc2fa9d"), looks := false }, kinds := [], alts := [], laidByText := true, laidKinds := [.data, .data, .data, .data, .pinned], laidTests := true, laidLooks := .later }
def WordsBackCardSaid : Prop := Claim7.holds Tryd.pinned (.plain (OpenSpec.ofChange wordsBackSpec)) wordsBackCard

/-- THE TIED CARD OF 'gyrelaw01.WordsBad'. -/
def wordsBadCard : Claim7 := { stood := { row := wordsBadRow, standIns := [], harness := (true, "7a1851ab96ebf00de3bf98a49b733112e4dd0fe8360005db8245e5022dc2fa9d"), looks := false }, kinds := [], alts := [], laidByText := true, laidKinds := [.data, .data, .data, .data, .pinned], laidTests := true, laidLooks := .later }
def WordsBadCardSaid : Prop := Claim7.holds Tryd.pinned (.plain (OpenSpec.ofChange wordsBadSpec)) wordsBadCard

/-- THE TIED CARD OF 'gyrelaw01.WordsNumbers'. -/
def wordsNumbersCard : Claim7 := { stood := { row := wordsNumbersRow, standIns := [], harness := (true, "7a1851ab96ebf00de3bf98a49b733112e4dd0fe8360005db8245e5022dc2fa9d"), looks := false }, kinds := [], alts := [], laidByText := true, laidKinds := [.data, .data, .data, .data, .pinned], laidTests := true, laidLooks := .later }
def WordsNumbersCardSaid : Prop := Claim7.holds Tryd.pinned (.plain (OpenSpec.ofChange wordsNumbersSpec)) wordsNumbersCard

/-- THE TIED CARD OF 'gyrelaw01.WordsBlanks'. -/
def wordsBlanksCard : Claim7 := { stood := { row := wordsBlanksRow, standIns := [], harness := (true, "7a1851ab96ebf00de3bf98a49b733112e4dd0fe8360005db8245e5022dc2fa9d"), looks := false }, kinds := [], alts := [], laidByText := true, laidKinds := [.data, .data, .data, .data, .pinned], laidTests := true, laidLooks := .later }
def WordsBlanksCardSaid : Prop := Claim7.holds Tryd.pinned (.plain (OpenSpec.ofChange wordsBlanksSpec)) wordsBlanksCard

/-- THE SECOND FORM's CARD OF 'gyrelaw01.WordsTells'. -/
def wordsTellsUptoCard : Claim7 := { stood := { row := wordsTellsUptoRow, standIns := [], harness := (true, "7a1851ab96ebf00de3bf98a49b733112e4dd0fe8360005db8245e5022dc2fa9d"), looks := false }, kinds := [], alts := [], laidByText := true, laidKinds := [.data, .data, .data, .data, .pinned], laidTests := true, laidLooks := .later }
def WordsTellsUptoCardSaid : Prop := Claim7.holds Tryd.pinned (.plain (OpenSpec.upto wordsTellsSpec)) wordsTellsUptoCard

/-- THE SECOND FORM's CARD OF 'gyrelaw01.WordsBack'. -/
def wordsBackUptoCard : Claim7 := { stood := { row := wordsBackUptoRow, standIns := [], harness := (true, "7a1851ab96ebf00de3bf98a49b733112e4dd0fe8360005db8245e5022dc2fa9d"), looks := false }, kinds := [], alts := [], laidByText := true, laidKinds := [.data, .data, .data, .data, .pinned], laidTests := true, laidLooks := .later }
def WordsBackUptoCardSaid : Prop := Claim7.holds Tryd.pinned (.plain (OpenSpec.upto wordsBackSpec)) wordsBackUptoCard

/-- THE SECOND FORM's CARD OF 'gyrelaw01.WordsBad'. -/
def wordsBadUptoCard : Claim7 := { stood := { row := wordsBadUptoRow, standIns := [], harness := (true, "7a1851ab96ebf00de3bf98a49b733112e4dd0fe8360005db8245e5022dc2fa9d"), looks := false }, kinds := [], alts := [], laidByText := true, laidKinds := [.data, .data, .data, .data, .pinned], laidTests := true, laidLooks := .later }
def WordsBadUptoCardSaid : Prop := Claim7.holds Tryd.pinned (.plain (OpenSpec.upto wordsBadSpec)) wordsBadUptoCard

/-- THE SECOND FORM's CARD OF 'gyrelaw01.WordsNumbers'. -/
def wordsNumbersUptoCard : Claim7 := { stood := { row := wordsNumbersUptoRow, standIns := [], harness := (true, "7a1851ab96ebf00de3bf98a49b733112e4dd0fe8360005db8245e5022dc2fa9d"), looks := false }, kinds := [], alts := [], laidByText := true, laidKinds := [.data, .data, .data, .data, .pinned], laidTests := true, laidLooks := .later }
def WordsNumbersUptoCardSaid : Prop := Claim7.holds Tryd.pinned (.plain (OpenSpec.upto wordsNumbersSpec)) wordsNumbersUptoCard

/-- THE SECOND FORM's CARD OF 'gyrelaw01.WordsBlanks'. -/
def wordsBlanksUptoCard : Claim7 := { stood := { row := wordsBlanksUptoRow, standIns := [], harness := (true, "7a1851ab96ebf00de3bf98a49b733112e4dd0fe8360005db8245e5022dc2fa9d"), looks := false }, kinds := [], alts := [], laidByText := true, laidKinds := [.data, .data, .data, .data, .pinned], laidTests := true, laidLooks := .later }
def WordsBlanksUptoCardSaid : Prop := Claim7.holds Tryd.pinned (.plain (OpenSpec.upto wordsBlanksSpec)) wordsBlanksUptoCard
end Rows
end Go.Proofs.YtpeepbgpcmodcaaDoor
