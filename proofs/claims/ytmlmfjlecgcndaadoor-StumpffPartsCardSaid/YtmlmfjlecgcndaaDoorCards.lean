/-
  DERIVED. GIVEN WITH THE SEED: THE CARDS: each row of YtmlmfjlecgcndaaDoorRows.lean that lists a variable, with what it lists TIED to the program's text (the seventh form; the later family's looks); each row that meets fmt, with fmt's text TOLD by the authors' own Lean function (tested against real Go, not proved from fmt's source: count such statements apart). THE CARD IS WHAT COUNTS. Prove the row's statement (the work); the ties are given (YtmlmfjlecgcndaaDoorTie.lean); close each card by the builder's one call (the guide's Derived/Test/ToyasCard.lean, 'card_holds'). Laid BY PROGRAM, IN A SANDBOX (cutbox-door.mjs). By AI agents, Wed Nov 11 2026. No macro, syntax, notation, axiom, sorry.
-/
import Derived.Test.YtmlmfjlecgcndaaDoorRows
import GoSem.ClaimSeven
namespace Go.Proofs.YtmlmfjlecgcndaaDoor
namespace Rows

/-- THE TIED CARD OF 'gyrelaw07.WaveParts'. -/
def wavePartsCard : Claim7 := { stood := { row := wavePartsRow, standIns := [], harness := (true, "01356a9f87916e1ea53e24d09fb565fec69a2174f4945190e6a07cdd7d93a0c1"), looks := true }, kinds := [], alts := [], laidByText := true, laidKinds := [.data], laidTests := true, laidLooks := .later }
def WavePartsCardSaid : Prop := Claim7.holds Tryd.pinned (.plain (OpenSpec.ofChange wavePartsSpec)) wavePartsCard

/-- THE TIED CARD OF 'gyrelaw08.StumpffParts'. -/
def stumpffPartsCard : Claim7 := { stood := { row := stumpffPartsRow, standIns := [], harness := (true, "01356a9f87916e1ea53e24d09fb565fec69a2174f4945190e6a07cdd7d93a0c1"), looks := true }, kinds := [], alts := [], laidByText := true, laidKinds := [.data], laidTests := true, laidLooks := .later }
def StumpffPartsCardSaid : Prop := Claim7.holds Tryd.pinned (.plain (OpenSpec.ofChange stumpffPartsSpec)) stumpffPartsCard

/-- THE SECOND FORM's CARD OF 'gyrelaw07.WaveParts'. -/
def wavePartsUptoCard : Claim7 := { stood := { row := wavePartsUptoRow, standIns := [], harness := (true, "01356a9f87916e1ea53e24d09fb565fec69a2174f4945190e6a07cdd7d93a0c1"), looks := true }, kinds := [], alts := [], laidByText := true, laidKinds := [.data], laidTests := true, laidLooks := .later }
def WavePartsUptoCardSaid : Prop := Claim7.holds Tryd.pinned (.plain (OpenSpec.upto wavePartsSpec)) wavePartsUptoCard

/-- THE SECOND FORM's CARD OF 'gyrelaw08.StumpffParts'. -/
def stumpffPartsUptoCard : Claim7 := { stood := { row := stumpffPartsUptoRow, standIns := [], harness := (true, "01356a9f87916e1ea53e24d09fb565fec69a2174f4945190e6a07cdd7d93a0c1"), looks := true }, kinds := [], alts := [], laidByText := true, laidKinds := [.data], laidTests := true, laidLooks := .later }
def StumpffPartsUptoCardSaid : Prop := Claim7.holds Tryd.pinned (.plain (OpenSpec.upto stumpffPartsSpec)) stumpffPartsUptoCard
end Rows
end Go.Proofs.YtmlmfjlecgcndaaDoor
