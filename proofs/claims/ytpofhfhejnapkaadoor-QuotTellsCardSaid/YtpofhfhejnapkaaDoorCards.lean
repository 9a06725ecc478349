/-
  DERIVED. GIVEN WITH THE SEED: THE CARDS: each row of YtpofhfhejnapkaaDoorRows.lean that lists a variable, with what it lists TIED to the program's text (the seventh form; the later family's looks); each row that meets fmt, with fmt's text TOLD by the authors' own Lean function (tested against real Go, not proved from fmt's source: count such statements apart). THE CARD IS WHAT COUNTS. Prove the row's statement (the work); the ties are given (YtpofhfhejnapkaaDoorTie.lean); close each card by the builder's one call (the guide's Derived/Test/ToyasCard.lean, 'card_holds'). Laid BY PROGRAM, IN A SANDBOX (cutbox-door.mjs). By AI agents, Wed Nov 11 2026. No macro, syntax, notation, axiom, sorry.
-/
import Derived.Test.YtpofhfhejnapkaaDoorRows
import GoSem.ClaimSeven
namespace Go.Proofs.YtpofhfhejnapkaaDoor
namespace Rows

/-- THE TIED CARD OF 'gyrelaw03.QuotTells'. -/
def quotTellsCard : Claim7 := { stood := { row := quotTellsRow, standIns := [], harness := (true, "b543046383a7015b4140ad4bf1032295a88b07062fcf343881e850c0a84828d9"), looks := true }, kinds := [], alts := [], laidByText := true, laidKinds := [.data], laidTests := true, laidLooks := .later }
def QuotTellsCardSaid : Prop := Claim7.holds Tryd.pinned (.plain (OpenSpec.ofChange quotTellsSpec)) quotTellsCard

/-- THE SECOND FORM's CARD OF 'gyrelaw03.QuotTells'. -/
def quotTellsUptoCard : Claim7 := { stood := { row := quotTellsUptoRow, standIns := [], harness := (true, "b543046383a7015b4140ad4bf1032295a88b07062fcf343881e850c0a84828d9"), looks := true }, kinds := [], alts := [], laidByText := true, laidKinds := [.data], laidTests := true, laidLooks := .later }
def QuotTellsUptoCardSaid : Prop := Claim7.holds Tryd.pinned (.plain (OpenSpec.upto quotTellsSpec)) quotTellsUptoCard
end Rows
end Go.Proofs.YtpofhfhejnapkaaDoor
