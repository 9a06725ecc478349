/-
  DERIVED. GIVEN WITH THE SEED: THE CARDS: each row of YthadbpnapbmppaaGreatDoorRows.lean that lists a variable, with what it lists TIED to the program's text (the seventh form; the later family's looks); each row that meets fmt, with fmt's text TOLD by the authors' own Lean function (tested against real Go, not proved from fmt's source: count such statements apart). THE CARD IS WHAT COUNTS. Prove the row's statement (the work); the ties are given (YthadbpnapbmppaaGreatDoorTie.lean); close each card by the builder's one call (the guide's Derived/Test/ToyasCard.lean, 'card_holds'). Laid BY PROGRAM, IN A SANDBOX (cutbox-door.mjs). By AI agents, Wed Nov 11 2026. No macro, syntax, notation, axiom, sorry.
-/
import Derived.Test.YthadbpnapbmppaaGreatDoorRows
import GoSem.ClaimSeven
namespace Go.Proofs.YthadbpnapbmppaaGreatDoor
namespace Rows

/-- THE TIED CARD OF 'gyrelaw20.KeplerTells'. -/
def keplerTellsCard : Claim7 := { stood := { row := keplerTellsRow, standIns := [], harness := (true, "94d0a950122623e0bb96cac336eba0d68fdc903384aab2c3ec7f274aeedc889a"), looks := true }, kinds := [], alts := [], laidByText := true, laidKinds := [.data], laidTests := true, laidLooks := .later }
def KeplerTellsCardSaid : Prop := Claim7.holds Tryz.pinned (.plain (OpenSpec.ofChange keplerTellsSpec)) keplerTellsCard

/-- THE TIED CARD OF 'gyrelaw20.KeplerHolds'. -/
def keplerHoldsCard : Claim7 := { stood := { row := keplerHoldsRow, standIns := [], harness := (true, "94d0a950122623e0bb96cac336eba0d68fdc903384aab2c3ec7f274aeedc889a"), looks := true }, kinds := [], alts := [], laidByText := true, laidKinds := [.data], laidTests := true, laidLooks := .later }
def KeplerHoldsCardSaid : Prop := Claim7.holds Tryz.pinned (.plain (OpenSpec.ofChange keplerHoldsSpec)) keplerHoldsCard

/-- THE TIED CARD OF 'gyrelaw20.KeplerRises'. -/
def keplerRisesCard : Claim7 := { stood := { row := keplerRisesRow, standIns := [], harness := (true, "94d0a950122623e0bb96cac336eba0d68fdc903384aab2c3ec7f274aeedc889a"), looks := true }, kinds := [], alts := [], laidByText := true, laidKinds := [.data], laidTests := true, laidLooks := .later }
def KeplerRisesCardSaid : Prop := Claim7.holds Tryz.pinned (.plain (OpenSpec.ofChange keplerRisesSpec)) keplerRisesCard

/-- THE TIED CARD OF 'gyrelaw21.OrbitTells'. -/
def orbitTellsCard : Claim7 := { stood := { row := orbitTellsRow, standIns := [], harness := (true, "94d0a950122623e0bb96cac336eba0d68fdc903384aab2c3ec7f274aeedc889a"), looks := true }, kinds := [], alts := [], laidByText := true, laidKinds := [.data, .data], laidTests := true, laidLooks := .later }
def OrbitTellsCardSaid : Prop := Claim7.holds Tryz.pinned (.plain (OpenSpec.ofChange orbitTellsSpec)) orbitTellsCard

/-- THE TIED CARD OF 'gyrelaw21.OrbitEllipse'. -/
def orbitEllipseCard : Claim7 := { stood := { row := orbitEllipseRow, standIns := [], harness := (true, "94d0a950122623e0bb96cac336eba0d68fdc903384aab2c3ec7f274aeedc889a"), looks := true }, kinds := [], alts := [], laidByText := true, laidKinds := [.data, .data], laidTests := true, laidLooks := .later }
def OrbitEllipseCardSaid : Prop := Claim7.holds Tryz.pinned (.plain (OpenSpec.ofChange orbitEllipseSpec)) orbitEllipseCard

/-- THE TIED CARD OF 'gyrelaw21.OrbitEnds'. -/
def orbitEndsCard : Claim7 := { stood := { row := orbitEndsRow, standIns := [], harness := (true, "94d0a950122623e0bb96cac336eba0d68fdc903384aab2c3ec7f274aeedc889a"), looks := true }, kinds := [], alts := [], laidByText := true, laidKinds := [.data, .data], laidTests := true, laidLooks := .later }
def OrbitEndsCardSaid : Prop := Claim7.holds Tryz.pinned (.plain (OpenSpec.ofChange orbitEndsSpec)) orbitEndsCard

/-- THE TIED CARD OF 'gyrelaw21.OrbitWhole'. -/
def orbitWholeCard : Claim7 := { stood := { row := orbitWholeRow, standIns := [], harness := (true, "94d0a950122623e0bb96cac336eba0d68fdc903384aab2c3ec7f274aeedc889a"), looks := true }, kinds := [], alts := [], laidByText := true, laidKinds := [.data, .data], laidTests := true, laidLooks := .later }
def OrbitWholeCardSaid : Prop := Claim7.holds Tryz.pinned (.plain (OpenSpec.ofChange orbitWholeSpec)) orbitWholeCard

/-- THE TIED CARD OF 'gyrelaw21.OrbitRow'. -/
def orbitRowCard : Claim7 := { stood := { row := orbitRowRow, standIns := [], harness := (true, "94d0a950122623e0bb96cac336eba0d68fdc903384aab2c3ec7f274aeedc889a"), looks := true }, kinds := [], alts := [], laidByText := true, laidKinds := [.data, .data], laidTests := true, laidLooks := .later }
def OrbitRowCardSaid : Prop := Claim7.holds Tryz.pinned (.plain (OpenSpec.ofChange orbitRowSpec)) orbitRowCard

/-- THE SECOND FORM's CARD OF 'gyrelaw20.KeplerTells'. -/
def keplerTellsUptoCard : Claim7 := { stood := { row := keplerTellsUptoRow, standIns := [], harness := (true, "94d0a950122623e0bb96cac336eba0d68fdc903384aab2c3ec7f274aeedc889a"), looks := true }, kinds := [], alts := [], laidByText := true, laidKinds := [.data], laidTests := true, laidLooks := .later }
def KeplerTellsUptoCardSaid : Prop := Claim7.holds Tryz.pinned (.plain (OpenSpec.upto keplerTellsSpec)) keplerTellsUptoCard

/-- THE SECOND FORM's CARD OF 'gyrelaw20.KeplerHolds'. -/
def keplerHoldsUptoCard : Claim7 := { stood := { row := keplerHoldsUptoRow, standIns := [], harness := (true, "94d0a950122623e0bb96cac336eba0d68fdc903384aab2c3ec7f274aeedc889a"), looks := true }, kinds := [], alts := [], laidByText := true, laidKinds := [.data], laidTests := true, laidLooks := .later }
def KeplerHoldsUptoCardSaid : Prop := Claim7.holds Tryz.pinned (.plain (OpenSpec.upto keplerHoldsSpec)) keplerHoldsUptoCard

/-- THE SECOND FORM's CARD OF 'gyrelaw20.KeplerRises'. -/
def keplerRisesUptoCard : Claim7 := { stood := { row := keplerRisesUptoRow, standIns := [], harness := (true, "94d0a950122623e0bb96cac336eba0d68fdc903384aab2c3ec7f274aeedc889a"), looks := true }, kinds := [], alts := [], laidByText := true, laidKinds := [.data], laidTests := true, laidLooks := .later }
def KeplerRisesUptoCardSaid : Prop := Claim7.holds Tryz.pinned (.plain (OpenSpec.upto keplerRisesSpec)) keplerRisesUptoCard

/-- THE SECOND FORM's CARD OF 'gyrelaw21.OrbitTells'. -/
def orbitTellsUptoCard : Claim7 := { stood := { row := orbitTellsUptoRow, standIns := [], harness := (true, "94d0a950122623e0bb96cac336eba0d68fdc903384aab2c3ec7f274aeedc889a"), looks := true }, kinds := [], alts := [], laidByText := true, laidKinds := [.data, .data], laidTests := true, laidLooks := .later }
def OrbitTellsUptoCardSaid : Prop := Claim7.holds Tryz.pinned (.plain (OpenSpec.upto orbitTellsSpec)) orbitTellsUptoCard

/-- THE SECOND FORM's CARD OF 'gyrelaw21.OrbitEllipse'. -/
def orbitEllipseUptoCard : Claim7 := { stood := { row := orbitEllipseUptoRow, standIns := [], harness := (true, "94d0a950122623e0bb96cac336eba0d68fdc903384aab2c3ec7f274aeedc889a"), looks := true }, kinds := [], alts := [], laidByText := true, laidKinds := [.data, .data], laidTests := true, laidLooks := .later }
def OrbitEllipseUptoCardSaid : Prop := Claim7.holds Tryz.pinned (.plain (OpenSpec.upto orbitEllipseSpec)) orbitEllipseUptoCard

/-- THE SECOND FORM's CARD OF 'gyrelaw21.OrbitEnds'. -/
def orbitEndsUptoCard : Claim7 := { stood := { row := orbitEndsUptoRow, standIns := [], harness := (true, "94d0a950122623e0bb96cac336eba0d68fdc903384aab2c3ec7f274aeedc889a"), looks := true }, kinds := [], alts := [], laidByText := true, laidKinds := [.data, .data], laidTests := true, laidLooks := .later }
def OrbitEndsUptoCardSaid : Prop := Claim7.holds Tryz.pinned (.plain (OpenSpec.upto orbitEndsSpec)) orbitEndsUptoCard

/-- THE SECOND FORM's CARD OF 'gyrelaw21.OrbitWhole'. -/
def orbitWholeUptoCard : Claim7 := { stood := { row := orbitWholeUptoRow, standIns := [], harness := (true, "94d0a950122623e0bb96cac336eba0d68fdc903384aab2c3ec7f274aeedc889a"), looks := true }, kinds := [], alts := [], laidByText := true, laidKinds := [.data, .data], laidTests := true, laidLooks := .later }
def OrbitWholeUptoCardSaid : Prop := Claim7.holds Tryz.pinned (.plain (OpenSpec.upto orbitWholeSpec)) orbitWholeUptoCard

/-- THE SECOND FORM's CARD OF 'gyrelaw21.OrbitRow'. -/
def orbitRowUptoCard : Claim7 := { stood := { row := orbitRowUptoRow, standIns := [], harness := (true, "94d0a950122623e0bb96cac336eba0d68fdc903384aab2c3ec7f274aeedc889a"), looks := true }, kinds := [], alts := [], laidByText := true, laidKinds := [.data, .data], laidTests := true, laidLooks := .later }
def OrbitRowUptoCardSaid : Prop := Claim7.holds Tryz.pinned (.plain (OpenSpec.upto orbitRowSpec)) orbitRowUptoCard
end Rows
end Go.Proofs.YthadbpnapbmppaaGreatDoor
