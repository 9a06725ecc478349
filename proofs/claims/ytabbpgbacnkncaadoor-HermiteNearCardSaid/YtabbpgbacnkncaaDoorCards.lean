/-
  DERIVED. GIVEN WITH THE SEED: THE CARDS: each row of YtabbpgbacnkncaaDoorRows.lean that lists a variable, with what it lists TIED to the program's text (the seventh form; the later family's looks); each row that meets fmt, with fmt's text TOLD by the authors' own Lean function (tested against real Go, not proved from fmt's source: count such statements apart). THE CARD IS WHAT COUNTS. Prove the row's statement (the work); the ties are given (YtabbpgbacnkncaaDoorTie.lean); close each card by the builder's one call (the guide's Derived/Test/ToyasCard.lean, 'card_holds'). Laid BY PROGRAM, IN A SANDBOX (cutbox-door.mjs). By AI agents, Wed Nov 11 2026. No macro, syntax, notation, axiom, sorry.
-/
import Derived.Test.YtabbpgbacnkncaaDoorRows
import GoSem.ClaimSeven
namespace Go.Proofs.YtabbpgbacnkncaaDoor
namespace Rows

/-- THE TIED CARD OF 'gyrelaw28.HermiteTells'. -/
def hermiteTellsCard : Claim7 := { stood := { row := hermiteTellsRow, standIns := [], harness := (true, "d169ace6dd713c7f4d32e153dfbd5df2e2bc512dfe2db0814533f10a5e068030"), looks := true }, kinds := [], alts := [], laidByText := true, laidKinds := [.data], laidTests := true, laidLooks := .later }
def HermiteTellsCardSaid : Prop := Claim7.holds Tryd.pinned (.plain (OpenSpec.ofChange hermiteTellsSpec)) hermiteTellsCard

/-- THE TIED CARD OF 'gyrelaw28.HermiteNear'. -/
def hermiteNearCard : Claim7 := { stood := { row := hermiteNearRow, standIns := [], harness := (true, "d169ace6dd713c7f4d32e153dfbd5df2e2bc512dfe2db0814533f10a5e068030"), looks := true }, kinds := [], alts := [], laidByText := true, laidKinds := [.data], laidTests := true, laidLooks := .later }
def HermiteNearCardSaid : Prop := Claim7.holds Tryd.pinned (.plain (OpenSpec.ofChange hermiteNearSpec)) hermiteNearCard

/-- THE TIED CARD OF 'gyrelaw28.HermiteEnds'. -/
def hermiteEndsCard : Claim7 := { stood := { row := hermiteEndsRow, standIns := [], harness := (true, "d169ace6dd713c7f4d32e153dfbd5df2e2bc512dfe2db0814533f10a5e068030"), looks := true }, kinds := [], alts := [], laidByText := true, laidKinds := [.data], laidTests := true, laidLooks := .later }
def HermiteEndsCardSaid : Prop := Claim7.holds Tryd.pinned (.plain (OpenSpec.ofChange hermiteEndsSpec)) hermiteEndsCard

/-- THE TIED CARD OF 'gyrelaw28.HermiteStraight'. -/
def hermiteStraightCard : Claim7 := { stood := { row := hermiteStraightRow, standIns := [], harness := (true, "d169ace6dd713c7f4d32e153dfbd5df2e2bc512dfe2db0814533f10a5e068030"), looks := true }, kinds := [], alts := [], laidByText := true, laidKinds := [.data], laidTests := true, laidLooks := .later }
def HermiteStraightCardSaid : Prop := Claim7.holds Tryd.pinned (.plain (OpenSpec.ofChange hermiteStraightSpec)) hermiteStraightCard

/-- THE TIED CARD OF 'gyrelaw28.HermiteStates'. -/
def hermiteStatesCard : Claim7 := { stood := { row := hermiteStatesRow, standIns := [], harness := (true, "d169ace6dd713c7f4d32e153dfbd5df2e2bc512dfe2db0814533f10a5e068030"), looks := true }, kinds := [], alts := [], laidByText := true, laidKinds := [.data], laidTests := true, laidLooks := .later }
def HermiteStatesCardSaid : Prop := Claim7.holds Tryd.pinned (.plain (OpenSpec.ofChange hermiteStatesSpec)) hermiteStatesCard

/-- THE SECOND FORM's CARD OF 'gyrelaw28.HermiteTells'. -/
def hermiteTellsUptoCard : Claim7 := { stood := { row := hermiteTellsUptoRow, standIns := [], harness := (true, "d169ace6dd713c7f4d32e153dfbd5df2e2bc512dfe2db0814533f10a5e068030"), looks := true }, kinds := [], alts := [], laidByText := true, laidKinds := [.data], laidTests := true, laidLooks := .later }
def HermiteTellsUptoCardSaid : Prop := Claim7.holds Tryd.pinned (.plain (OpenSpec.upto hermiteTellsSpec)) hermiteTellsUptoCard

/-- THE SECOND FORM's CARD OF 'gyrelaw28.HermiteNear'. -/
def hermiteNearUptoCard : Claim7 := { stood := { row := hermiteNearUptoRow, standIns := [], harness := (true, "d169ace6dd713c7f4d32e153dfbd5df2e2bc512dfe2db0814533f10a5e068030"), looks := true }, kinds := [], alts := [], laidByText := true, laidKinds := [.data], laidTests := true, laidLooks := .later }
def HermiteNearUptoCardSaid : Prop := Claim7.holds Tryd.pinned (.plain (OpenSpec.upto hermiteNearSpec)) hermiteNearUptoCard

/-- THE SECOND FORM's CARD OF 'gyrelaw28.HermiteEnds'. -/
def hermiteEndsUptoCard : Claim7 := { stood := { row := hermiteEndsUptoRow, standIns := [], harness := (true, "d169ace6dd713c7f4d32e153dfbd5df2e2bc512dfe2db0814533f10a5e068030"), looks := true }, kinds := [], alts := [], laidByText := true, laidKinds := [.data], laidTests := true, laidLooks := .later }
def HermiteEndsUptoCardSaid : Prop := Claim7.holds Tryd.pinned (.plain (OpenSpec.upto hermiteEndsSpec)) hermiteEndsUptoCard

/-- THE SECOND FORM's CARD OF 'gyrelaw28.HermiteStraight'. -/
def hermiteStraightUptoCard : Claim7 := { stood := { row := hermiteStraightUptoRow, standIns := [], harness := (true, "d169ace6dd713c7f4d32e153dfbd5df2e2bc512dfe2db0814533f10a5e068030"), looks := true }, kinds := [], alts := [], laidByText := true, laidKinds := [.data], laidTests := true, laidLooks := .later }
def HermiteStraightUptoCardSaid : Prop := Claim7.holds Tryd.pinned (.plain (OpenSpec.upto hermiteStraightSpec)) hermiteStraightUptoCard

/-- THE SECOND FORM's CARD OF 'gyrelaw28.HermiteStates'. -/
def hermiteStatesUptoCard : Claim7 := { stood := { row := hermiteStatesUptoRow, standIns := [], harness := (true, "d169ace6dd713c7f4d32e153dfbd5df2e2bc512dfe2db0814533f10a5e068030"), looks := true }, kinds := [], alts := [], laidByText := true, laidKinds := [.data], laidTests := true, laidLooks := .later }
def HermiteStatesUptoCardSaid : Prop := Claim7.holds Tryd.pinned (.plain (OpenSpec.upto hermiteStatesSpec)) hermiteStatesUptoCard
end Rows
end Go.Proofs.YtabbpgbacnkncaaDoor
