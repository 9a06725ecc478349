/-
  DERIVED. GIVEN WITH THE SEED: THE CARDS: each row of YtcddfemcjmoolaaDoorRows.lean that lists a variable, with what it lists TIED to the program's text (the seventh form; the later family's looks); each row that meets fmt, with fmt's text TOLD by the authors' own Lean function (tested against real Go, not proved from fmt's source: count such statements apart). THE CARD IS WHAT COUNTS. Prove the row's statement (the work); the ties are given (YtcddfemcjmoolaaDoorTie.lean); close each card by the builder's one call (the guide's Derived/Test/ToyasCard.lean, 'card_holds'). Laid BY PROGRAM, IN A SANDBOX (cutbox-door.mjs). By AI agents, Wed Nov 11 2026. No macro, syntax, notation, axiom, sorry.
-/
import Derived.Test.YtcddfemcjmoolaaDoorRows
import GoSem.ClaimSeven
namespace Go.Proofs.YtcddfemcjmoolaaDoor
namespace Rows

/-- THE TIED CARD OF 'gyrelaw03.QuotTells'. -/
def quotTellsCard : Claim7 := { stood := { row := quotTellsRow, standIns := [], harness := (true, "801dced4d29aebc2df658fdf50f0599625c28ac3200d8e62e6eb66b06cf704f0"), looks := true }, kinds := [], alts := [], laidByText := true, laidKinds := [.data], laidTests := true, laidLooks := .later }
def QuotTellsCardSaid : Prop := Claim7.holds Tryd.pinned (.plain (OpenSpec.ofChange quotTellsSpec)) quotTellsCard

/-- THE TIED CARD OF 'gyrelaw03.QuotFloor'. -/
def quotFloorCard : Claim7 := { stood := { row := quotFloorRow, standIns := [], harness := (true, "801dced4d29aebc2df658fdf50f0599625c28ac3200d8e62e6eb66b06cf704f0"), looks := true }, kinds := [], alts := [], laidByText := true, laidKinds := [.data], laidTests := true, laidLooks := .later }
def QuotFloorCardSaid : Prop := Claim7.holds Tryd.pinned (.plain (OpenSpec.ofChange quotFloorSpec)) quotFloorCard

/-- THE TIED CARD OF 'gyrelaw03.QuotNear'. -/
def quotNearCard : Claim7 := { stood := { row := quotNearRow, standIns := [], harness := (true, "801dced4d29aebc2df658fdf50f0599625c28ac3200d8e62e6eb66b06cf704f0"), looks := true }, kinds := [], alts := [], laidByText := true, laidKinds := [.data], laidTests := true, laidLooks := .later }
def QuotNearCardSaid : Prop := Claim7.holds Tryd.pinned (.plain (OpenSpec.ofChange quotNearSpec)) quotNearCard

/-- THE TIED CARD OF 'gyrelaw03.QuotTurns'. -/
def quotTurnsCard : Claim7 := { stood := { row := quotTurnsRow, standIns := [], harness := (true, "801dced4d29aebc2df658fdf50f0599625c28ac3200d8e62e6eb66b06cf704f0"), looks := true }, kinds := [], alts := [], laidByText := true, laidKinds := [.data], laidTests := true, laidLooks := .later }
def QuotTurnsCardSaid : Prop := Claim7.holds Tryd.pinned (.plain (OpenSpec.ofChange quotTurnsSpec)) quotTurnsCard

/-- THE TIED CARD OF 'gyrelaw03.QuotInts'. -/
def quotIntsCard : Claim7 := { stood := { row := quotIntsRow, standIns := [], harness := (true, "801dced4d29aebc2df658fdf50f0599625c28ac3200d8e62e6eb66b06cf704f0"), looks := true }, kinds := [], alts := [], laidByText := true, laidKinds := [.data], laidTests := true, laidLooks := .later }
def QuotIntsCardSaid : Prop := Claim7.holds Tryd.pinned (.plain (OpenSpec.ofChange quotIntsSpec)) quotIntsCard

/-- THE SECOND FORM's CARD OF 'gyrelaw03.QuotTells'. -/
def quotTellsUptoCard : Claim7 := { stood := { row := quotTellsUptoRow, standIns := [], harness := (true, "801dced4d29aebc2df658fdf50f0599625c28ac3200d8e62e6eb66b06cf704f0"), looks := true }, kinds := [], alts := [], laidByText := true, laidKinds := [.data], laidTests := true, laidLooks := .later }
def QuotTellsUptoCardSaid : Prop := Claim7.holds Tryd.pinned (.plain (OpenSpec.upto quotTellsSpec)) quotTellsUptoCard

/-- THE SECOND FORM's CARD OF 'gyrelaw03.QuotFloor'. -/
def quotFloorUptoCard : Claim7 := { stood := { row := quotFloorUptoRow, standIns := [], harness := (true, "801dced4d29aebc2df658fdf50f0599625c28ac3200d8e62e6eb66b06cf704f0"), looks := true }, kinds := [], alts := [], laidByText := true, laidKinds := [.data], laidTests := true, laidLooks := .later }
def QuotFloorUptoCardSaid : Prop := Claim7.holds Tryd.pinned (.plain (OpenSpec.upto quotFloorSpec)) quotFloorUptoCard

/-- THE SECOND FORM's CARD OF 'gyrelaw03.QuotNear'. -/
def quotNearUptoCard : Claim7 := { stood := { row := quotNearUptoRow, standIns := [], harness := (true, "801dced4d29aebc2df658fdf50f0599625c28ac3200d8e62e6eb66b06cf704f0"), looks := true }, kinds := [], alts := [], laidByText := true, laidKinds := [.data], laidTests := true, laidLooks := .later }
def QuotNearUptoCardSaid : Prop := Claim7.holds Tryd.pinned (.plain (OpenSpec.upto quotNearSpec)) quotNearUptoCard

/-- THE SECOND FORM's CARD OF 'gyrelaw03.QuotTurns'. -/
def quotTurnsUptoCard : Claim7 := { stood := { row := quotTurnsUptoRow, standIns := [], harness := (true, "801dced4d29aebc2df658fdf50f0599625c28ac3200d8e62e6eb66b06cf704f0"), looks := true }, kinds := [], alts := [], laidByText := true, laidKinds := [.data], laidTests := true, laidLooks := .later }
def QuotTurnsUptoCardSaid : Prop := Claim7.holds Tryd.pinned (.plain (OpenSpec.upto quotTurnsSpec)) quotTurnsUptoCard

/-- THE SECOND FORM's CARD OF 'gyrelaw03.QuotInts'. -/
def quotIntsUptoCard : Claim7 := { stood := { row := quotIntsUptoRow, standIns := [], harness := (true, "801dced4d29aebc2df658fdf50f0599625c28ac3200d8e62e6eb66b06cf704f0"), looks := true }, kinds := [], alts := [], laidByText := true, laidKinds := [.data], laidTests := true, laidLooks := .later }
def QuotIntsUptoCardSaid : Prop := Claim7.holds Tryd.pinned (.plain (OpenSpec.upto quotIntsSpec)) quotIntsUptoCard
end Rows
end Go.Proofs.YtcddfemcjmoolaaDoor
