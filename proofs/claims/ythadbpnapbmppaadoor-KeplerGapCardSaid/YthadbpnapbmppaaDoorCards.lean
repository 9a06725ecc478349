/-
  DERIVED. GIVEN WITH THE SEED: THE CARDS: each row of YthadbpnapbmppaaDoorRows.lean that lists a variable, with what it lists TIED to the program's text (the seventh form; the later family's looks); each row that meets fmt, with fmt's text TOLD by the authors' own Lean function (tested against real Go, not proved from fmt's source: count such statements apart). THE CARD IS WHAT COUNTS. Prove the row's statement (the work); the ties are given (YthadbpnapbmppaaDoorTie.lean); close each card by the builder's one call (the guide's Derived/Test/ToyasCard.lean, 'card_holds'). Laid BY PROGRAM, IN A SANDBOX (cutbox-door.mjs). By AI agents, Wed Nov 11 2026. No macro, syntax, notation, axiom, sorry.
-/
import Derived.Test.YthadbpnapbmppaaDoorRows
import GoSem.ClaimSeven
namespace Go.Proofs.YthadbpnapbmppaaDoor
namespace Rows

/-- THE TIED CARD OF 'gyrelaw20.KeplerFuel'. -/
def keplerFuelCard : Claim7 := { stood := { row := keplerFuelRow, standIns := [], harness := (true, "219c6675f547e6d33de6ba2712053891f733e72cf5d8a21e54fed9c06ecb98b2"), looks := true }, kinds := [], alts := [], laidByText := true, laidKinds := [.data], laidTests := true, laidLooks := .later }
def KeplerFuelCardSaid : Prop := Claim7.holds Tryd.pinned (.plain (OpenSpec.ofChange keplerFuelSpec)) keplerFuelCard

/-- THE TIED CARD OF 'gyrelaw20.KeplerGap'. -/
def keplerGapCard : Claim7 := { stood := { row := keplerGapRow, standIns := [], harness := (true, "219c6675f547e6d33de6ba2712053891f733e72cf5d8a21e54fed9c06ecb98b2"), looks := true }, kinds := [], alts := [], laidByText := true, laidKinds := [.data], laidTests := true, laidLooks := .later }
def KeplerGapCardSaid : Prop := Claim7.holds Tryd.pinned (.plain (OpenSpec.ofChange keplerGapSpec)) keplerGapCard

/-- THE SECOND FORM's CARD OF 'gyrelaw20.KeplerFuel'. -/
def keplerFuelUptoCard : Claim7 := { stood := { row := keplerFuelUptoRow, standIns := [], harness := (true, "219c6675f547e6d33de6ba2712053891f733e72cf5d8a21e54fed9c06ecb98b2"), looks := true }, kinds := [], alts := [], laidByText := true, laidKinds := [.data], laidTests := true, laidLooks := .later }
def KeplerFuelUptoCardSaid : Prop := Claim7.holds Tryd.pinned (.plain (OpenSpec.upto keplerFuelSpec)) keplerFuelUptoCard

/-- THE SECOND FORM's CARD OF 'gyrelaw20.KeplerGap'. -/
def keplerGapUptoCard : Claim7 := { stood := { row := keplerGapUptoRow, standIns := [], harness := (true, "219c6675f547e6d33de6ba2712053891f733e72cf5d8a21e54fed9c06ecb98b2"), looks := true }, kinds := [], alts := [], laidByText := true, laidKinds := [.data], laidTests := true, laidLooks := .later }
def KeplerGapUptoCardSaid : Prop := Claim7.holds Tryd.pinned (.plain (OpenSpec.upto keplerGapSpec)) keplerGapUptoCard
end Rows
end Go.Proofs.YthadbpnapbmppaaDoor
