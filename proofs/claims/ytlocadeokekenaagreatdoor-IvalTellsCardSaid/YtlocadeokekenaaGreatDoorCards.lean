/-
  DERIVED. GIVEN WITH THE SEED: THE CARDS: each row of YtlocadeokekenaaGreatDoorRows.lean that lists a variable, with what it lists TIED to the program's text (the seventh form; the later family's looks); each row that meets fmt, with fmt's text TOLD by the authors' own Lean function (tested against real Go, not proved from fmt's source: count such statements apart). THE CARD IS WHAT COUNTS. Prove the row's statement (the work); the ties are given (YtlocadeokekenaaGreatDoorTie.lean); close each card by the builder's one call (the guide's Derived/Test/ToyasCard.lean, 'card_holds'). Laid BY PROGRAM, IN A SANDBOX (cutbox-door.mjs). By AI agents, Wed Nov 11 2026. No macro, syntax, notation, axiom, sorry.
-/
import Derived.Test.YtlocadeokekenaaGreatDoorRows
import GoSem.ClaimSeven
namespace Go.Proofs.YtlocadeokekenaaGreatDoor
namespace Rows

/-- THE TIED CARD OF 'gyrelaw05.IvalTells'. -/
def ivalTellsCard : Claim7 := { stood := { row := ivalTellsRow, standIns := [], harness := (true, "c41f2d3deb4cde4e2ed36d19a05c7da6d29dea01b85d20c20a894a1fd27fc652"), looks := true }, kinds := [], alts := [], laidByText := true, laidKinds := [.data], laidTests := true, laidLooks := .later }
def IvalTellsCardSaid : Prop := Claim7.holds Tryz.pinned (.plain (OpenSpec.ofChange ivalTellsSpec)) ivalTellsCard

/-- THE TIED CARD OF 'gyrelaw06.InvTells'. -/
def invTellsCard : Claim7 := { stood := { row := invTellsRow, standIns := [], harness := (true, "c41f2d3deb4cde4e2ed36d19a05c7da6d29dea01b85d20c20a894a1fd27fc652"), looks := true }, kinds := [], alts := [], laidByText := true, laidKinds := [.data], laidTests := true, laidLooks := .later }
def InvTellsCardSaid : Prop := Claim7.holds Tryz.pinned (.plain (OpenSpec.ofChange invTellsSpec)) invTellsCard

/-- THE SECOND FORM's CARD OF 'gyrelaw05.IvalTells'. -/
def ivalTellsUptoCard : Claim7 := { stood := { row := ivalTellsUptoRow, standIns := [], harness := (true, "c41f2d3deb4cde4e2ed36d19a05c7da6d29dea01b85d20c20a894a1fd27fc652"), looks := true }, kinds := [], alts := [], laidByText := true, laidKinds := [.data], laidTests := true, laidLooks := .later }
def IvalTellsUptoCardSaid : Prop := Claim7.holds Tryz.pinned (.plain (OpenSpec.upto ivalTellsSpec)) ivalTellsUptoCard

/-- THE SECOND FORM's CARD OF 'gyrelaw06.InvTells'. -/
def invTellsUptoCard : Claim7 := { stood := { row := invTellsUptoRow, standIns := [], harness := (true, "c41f2d3deb4cde4e2ed36d19a05c7da6d29dea01b85d20c20a894a1fd27fc652"), looks := true }, kinds := [], alts := [], laidByText := true, laidKinds := [.data], laidTests := true, laidLooks := .later }
def InvTellsUptoCardSaid : Prop := Claim7.holds Tryz.pinned (.plain (OpenSpec.upto invTellsSpec)) invTellsUptoCard
end Rows
end Go.Proofs.YtlocadeokekenaaGreatDoor
