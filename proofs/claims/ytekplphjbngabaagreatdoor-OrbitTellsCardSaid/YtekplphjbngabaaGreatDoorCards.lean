/-
  DERIVED. GIVEN WITH THE SEED: THE CARDS: each row of YtekplphjbngabaaGreatDoorRows.lean that lists a variable, with what it lists TIED to the program's text (the seventh form; the later family's looks); each row that meets fmt, with fmt's text TOLD by the authors' own Lean function (tested against real Go, not proved from fmt's source: count such statements apart). THE CARD IS WHAT COUNTS. Prove the row's statement (the work); the ties are given (YtekplphjbngabaaGreatDoorTie.lean); close each card by the builder's one call (the guide's Derived/Test/ToyasCard.lean, 'card_holds'). Laid BY PROGRAM, IN A SANDBOX (cutbox-door.mjs). By AI agents, Wed Nov 11 2026. No macro, syntax, notation, axiom, sorry.
-/
import Derived.Test.YtekplphjbngabaaGreatDoorRows
import GoSem.ClaimSeven
namespace Go.Proofs.YtekplphjbngabaaGreatDoor
namespace Rows

/-- THE TIED CARD OF 'gyrelaw21.OrbitTells'. -/
def orbitTellsCard : Claim7 := { stood := { row := orbitTellsRow, standIns := [], harness := (true, "190243f6ed231d8990174772ce533b5c0e2bf89a02f83b3672466cddbc4f6d1d"), looks := true }, kinds := [], alts := [], laidByText := true, laidKinds := [.data, .data], laidTests := true, laidLooks := .later }
def OrbitTellsCardSaid : Prop := Claim7.holds Tryz.pinned (.plain (OpenSpec.ofChange orbitTellsSpec)) orbitTellsCard

/-- THE SECOND FORM's CARD OF 'gyrelaw21.OrbitTells'. -/
def orbitTellsUptoCard : Claim7 := { stood := { row := orbitTellsUptoRow, standIns := [], harness := (true, "190243f6ed231d8990174772ce533b5c0e2bf89a02f83b3672466cddbc4f6d1d"), looks := true }, kinds := [], alts := [], laidByText := true, laidKinds := [.data, .data], laidTests := true, laidLooks := .later }
def OrbitTellsUptoCardSaid : Prop := Claim7.holds Tryz.pinned (.plain (OpenSpec.upto orbitTellsSpec)) orbitTellsUptoCard
end Rows
end Go.Proofs.YtekplphjbngabaaGreatDoor
