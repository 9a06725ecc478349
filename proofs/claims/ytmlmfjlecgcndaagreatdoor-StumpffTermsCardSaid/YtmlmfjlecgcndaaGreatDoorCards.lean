/-
  DERIVED. GIVEN WITH THE SEED: THE CARDS: each row of YtmlmfjlecgcndaaGreatDoorRows.lean that lists a variable, with what it lists TIED to the program's text (the seventh form; the later family's looks); each row that meets fmt, with fmt's text TOLD by the authors' own Lean function (tested against real Go, not proved from fmt's source: count such statements apart). THE CARD IS WHAT COUNTS. Prove the row's statement (the work); the ties are given (YtmlmfjlecgcndaaGreatDoorTie.lean); close each card by the builder's one call (the guide's Derived/Test/ToyasCard.lean, 'card_holds'). Laid BY PROGRAM, IN A SANDBOX (cutbox-door.mjs). By AI agents, Wed Nov 11 2026. No macro, syntax, notation, axiom, sorry.
-/
import Derived.Test.YtmlmfjlecgcndaaGreatDoorRows
import GoSem.ClaimSeven
namespace Go.Proofs.YtmlmfjlecgcndaaGreatDoor
namespace Rows

/-- THE TIED CARD OF 'gyrelaw07.WaveOne'. -/
def waveOneCard : Claim7 := { stood := { row := waveOneRow, standIns := [], harness := (true, "4a1718cb3c07decb3d67c62f6a910849b9d3808512e02db20f3fdeb362812ec8"), looks := true }, kinds := [], alts := [], laidByText := true, laidKinds := [.data], laidTests := true, laidLooks := .later }
def WaveOneCardSaid : Prop := Claim7.holds Tryz.pinned (.plain (OpenSpec.ofChange waveOneSpec)) waveOneCard

/-- THE TIED CARD OF 'gyrelaw07.WaveSums'. -/
def waveSumsCard : Claim7 := { stood := { row := waveSumsRow, standIns := [], harness := (true, "4a1718cb3c07decb3d67c62f6a910849b9d3808512e02db20f3fdeb362812ec8"), looks := true }, kinds := [], alts := [], laidByText := true, laidKinds := [.data], laidTests := true, laidLooks := .later }
def WaveSumsCardSaid : Prop := Claim7.holds Tryz.pinned (.plain (OpenSpec.ofChange waveSumsSpec)) waveSumsCard

/-- THE TIED CARD OF 'gyrelaw08.StumpffOnes'. -/
def stumpffOnesCard : Claim7 := { stood := { row := stumpffOnesRow, standIns := [], harness := (true, "4a1718cb3c07decb3d67c62f6a910849b9d3808512e02db20f3fdeb362812ec8"), looks := true }, kinds := [], alts := [], laidByText := true, laidKinds := [.data], laidTests := true, laidLooks := .later }
def StumpffOnesCardSaid : Prop := Claim7.holds Tryz.pinned (.plain (OpenSpec.ofChange stumpffOnesSpec)) stumpffOnesCard

/-- THE TIED CARD OF 'gyrelaw08.StumpffWaves'. -/
def stumpffWavesCard : Claim7 := { stood := { row := stumpffWavesRow, standIns := [], harness := (true, "4a1718cb3c07decb3d67c62f6a910849b9d3808512e02db20f3fdeb362812ec8"), looks := true }, kinds := [], alts := [], laidByText := true, laidKinds := [.data], laidTests := true, laidLooks := .later }
def StumpffWavesCardSaid : Prop := Claim7.holds Tryz.pinned (.plain (OpenSpec.ofChange stumpffWavesSpec)) stumpffWavesCard

/-- THE TIED CARD OF 'gyrelaw08.StumpffFour'. -/
def stumpffFourCard : Claim7 := { stood := { row := stumpffFourRow, standIns := [], harness := (true, "4a1718cb3c07decb3d67c62f6a910849b9d3808512e02db20f3fdeb362812ec8"), looks := true }, kinds := [], alts := [], laidByText := true, laidKinds := [.data], laidTests := true, laidLooks := .later }
def StumpffFourCardSaid : Prop := Claim7.holds Tryz.pinned (.plain (OpenSpec.ofChange stumpffFourSpec)) stumpffFourCard

/-- THE TIED CARD OF 'gyrelaw08.StumpffTerms'. -/
def stumpffTermsCard : Claim7 := { stood := { row := stumpffTermsRow, standIns := [], harness := (true, "4a1718cb3c07decb3d67c62f6a910849b9d3808512e02db20f3fdeb362812ec8"), looks := true }, kinds := [], alts := [], laidByText := true, laidKinds := [.data], laidTests := true, laidLooks := .later }
def StumpffTermsCardSaid : Prop := Claim7.holds Tryz.pinned (.plain (OpenSpec.ofChange stumpffTermsSpec)) stumpffTermsCard

/-- THE SECOND FORM's CARD OF 'gyrelaw07.WaveOne'. -/
def waveOneUptoCard : Claim7 := { stood := { row := waveOneUptoRow, standIns := [], harness := (true, "4a1718cb3c07decb3d67c62f6a910849b9d3808512e02db20f3fdeb362812ec8"), looks := true }, kinds := [], alts := [], laidByText := true, laidKinds := [.data], laidTests := true, laidLooks := .later }
def WaveOneUptoCardSaid : Prop := Claim7.holds Tryz.pinned (.plain (OpenSpec.upto waveOneSpec)) waveOneUptoCard

/-- THE SECOND FORM's CARD OF 'gyrelaw07.WaveSums'. -/
def waveSumsUptoCard : Claim7 := { stood := { row := waveSumsUptoRow, standIns := [], harness := (true, "4a1718cb3c07decb3d67c62f6a910849b9d3808512e02db20f3fdeb362812ec8"), looks := true }, kinds := [], alts := [], laidByText := true, laidKinds := [.data], laidTests := true, laidLooks := .later }
def WaveSumsUptoCardSaid : Prop := Claim7.holds Tryz.pinned (.plain (OpenSpec.upto waveSumsSpec)) waveSumsUptoCard

/-- THE SECOND FORM's CARD OF 'gyrelaw08.StumpffOnes'. -/
def stumpffOnesUptoCard : Claim7 := { stood := { row := stumpffOnesUptoRow, standIns := [], harness := (true, "4a1718cb3c07decb3d67c62f6a910849b9d3808512e02db20f3fdeb362812ec8"), looks := true }, kinds := [], alts := [], laidByText := true, laidKinds := [.data], laidTests := true, laidLooks := .later }
def StumpffOnesUptoCardSaid : Prop := Claim7.holds Tryz.pinned (.plain (OpenSpec.upto stumpffOnesSpec)) stumpffOnesUptoCard

/-- THE SECOND FORM's CARD OF 'gyrelaw08.StumpffWaves'. -/
def stumpffWavesUptoCard : Claim7 := { stood := { row := stumpffWavesUptoRow, standIns := [], harness := (true, "4a1718cb3c07decb3d67c62f6a910849b9d3808512e02db20f3fdeb362812ec8"), looks := true }, kinds := [], alts := [], laidByText := true, laidKinds := [.data], laidTests := true, laidLooks := .later }
def StumpffWavesUptoCardSaid : Prop := Claim7.holds Tryz.pinned (.plain (OpenSpec.upto stumpffWavesSpec)) stumpffWavesUptoCard

/-- THE SECOND FORM's CARD OF 'gyrelaw08.StumpffFour'. -/
def stumpffFourUptoCard : Claim7 := { stood := { row := stumpffFourUptoRow, standIns := [], harness := (true, "4a1718cb3c07decb3d67c62f6a910849b9d3808512e02db20f3fdeb362812ec8"), looks := true }, kinds := [], alts := [], laidByText := true, laidKinds := [.data], laidTests := true, laidLooks := .later }
def StumpffFourUptoCardSaid : Prop := Claim7.holds Tryz.pinned (.plain (OpenSpec.upto stumpffFourSpec)) stumpffFourUptoCard

/-- THE SECOND FORM's CARD OF 'gyrelaw08.StumpffTerms'. -/
def stumpffTermsUptoCard : Claim7 := { stood := { row := stumpffTermsUptoRow, standIns := [], harness := (true, "4a1718cb3c07decb3d67c62f6a910849b9d3808512e02db20f3fdeb362812ec8"), looks := true }, kinds := [], alts := [], laidByText := true, laidKinds := [.data], laidTests := true, laidLooks := .later }
def StumpffTermsUptoCardSaid : Prop := Claim7.holds Tryz.pinned (.plain (OpenSpec.upto stumpffTermsSpec)) stumpffTermsUptoCard
end Rows
end Go.Proofs.YtmlmfjlecgcndaaGreatDoor
