/-
  DERIVED. GIVEN WITH THE SEED: THE CARDS: each row of YtdnpnccieabmiaaDoorRows.lean that lists a variable, with what it lists TIED to the program's text (the seventh form; the later family's looks); each row that meets fmt, with fmt's text TOLD by the authors' own Lean function (tested against real Go, not proved from fmt's source: count such statements apart). THE CARD IS WHAT COUNTS. Prove the row's statement (the work); the ties are given (YtdnpnccieabmiaaDoorTie.lean); close each card by the builder's one call (the guide's Derived/Test/ToyasCard.lean, 'card_holds'). Laid BY PROGRAM, IN A SANDBOX (cutbox-door.mjs). By AI agents, Wed Nov 11 2026. No macro, syntax, notation, axiom, sorry.
-/
import Derived.Test.YtdnpnccieabmiaaDoorRows
import GoSem.ClaimSeven
namespace Go.Proofs.YtdnpnccieabmiaaDoor
namespace Rows

/-- THE TIED CARD OF 'gyrelaw28.HermiteTells'. -/
def hermiteTellsCard : Claim7 := { stood := { row := hermiteTellsRow, standIns := [], harness := (true, "db905f897cd353287381955d2af1a65a3183b5f00f7ea663306f8d4889ba2ea3"), looks := true }, kinds := [], alts := [], laidByText := true, laidKinds := [.data], laidTests := true, laidLooks := .later }
def HermiteTellsCardSaid : Prop := Claim7.holds Tryd.pinned (.plain (OpenSpec.ofChange hermiteTellsSpec)) hermiteTellsCard

/-- THE TIED CARD OF 'gyrelaw28.HermiteStates'. -/
def hermiteStatesCard : Claim7 := { stood := { row := hermiteStatesRow, standIns := [], harness := (true, "db905f897cd353287381955d2af1a65a3183b5f00f7ea663306f8d4889ba2ea3"), looks := true }, kinds := [], alts := [], laidByText := true, laidKinds := [.data], laidTests := true, laidLooks := .later }
def HermiteStatesCardSaid : Prop := Claim7.holds Tryd.pinned (.plain (OpenSpec.ofChange hermiteStatesSpec)) hermiteStatesCard

/-- THE SECOND FORM's CARD OF 'gyrelaw28.HermiteTells'. -/
def hermiteTellsUptoCard : Claim7 := { stood := { row := hermiteTellsUptoRow, standIns := [], harness := (true, "db905f897cd353287381955d2af1a65a3183b5f00f7ea663306f8d4889ba2ea3"), looks := true }, kinds := [], alts := [], laidByText := true, laidKinds := [.data], laidTests := true, laidLooks := .later }
def HermiteTellsUptoCardSaid : Prop := Claim7.holds Tryd.pinned (.plain (OpenSpec.upto hermiteTellsSpec)) hermiteTellsUptoCard

/-- THE SECOND FORM's CARD OF 'gyrelaw28.HermiteStates'. -/
def hermiteStatesUptoCard : Claim7 := { stood := { row := hermiteStatesUptoRow, standIns := [], harness := (true, "db905f897cd353287381955d2af1a65a3183b5f00f7ea663306f8d4889ba2ea3"), looks := true }, kinds := [], alts := [], laidByText := true, laidKinds := [.data], laidTests := true, laidLooks := .later }
def HermiteStatesUptoCardSaid : Prop := Claim7.holds Tryd.pinned (.plain (OpenSpec.upto hermiteStatesSpec)) hermiteStatesUptoCard
end Rows
end Go.Proofs.YtdnpnccieabmiaaDoor
