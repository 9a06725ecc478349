/-
  DERIVED. GIVEN WITH THE SEED: THE CARDS: each row of YtjfcndiodbaejaaDoorRows.lean that lists a variable, with what it lists TIED to the program's text (the seventh form; the later family's looks); each row that meets fmt, with fmt's text TOLD by the authors' own Lean function (tested against real Go, not proved from fmt's source: count such statements apart). THE CARD IS WHAT COUNTS. Prove the row's statement (the work); the ties are given (YtjfcndiodbaejaaDoorTie.lean); close each card by the builder's one call (the guide's Derived/Test/ToyasCard.lean, 'card_holds'). Laid BY PROGRAM, IN A SANDBOX (cutbox-door.mjs). By AI agents, Wed Nov 11 2026. No macro, syntax, notation, axiom, sorry.
-/
import Derived.Test.YtjfcndiodbaejaaDoorRows
import GoSem.ClaimSeven
namespace Go.Proofs.YtjfcndiodbaejaaDoor
namespace Rows

/-- THE TIED CARD OF 'gyrelaw05.IvalHolds'. -/
def ivalHoldsCard : Claim7 := { stood := { row := ivalHoldsRow, standIns := [], harness := (true, "b0098416713ba459b787d2f98cf27fd6b26d22393b194a234aebf24d443dae98"), looks := true }, kinds := [], alts := [], laidByText := true, laidKinds := [.data], laidTests := true, laidLooks := .later }
def IvalHoldsCardSaid : Prop := Claim7.holds Tryd.pinned (.plain (OpenSpec.ofChange ivalHoldsSpec)) ivalHoldsCard

/-- THE TIED CARD OF 'gyrelaw05.IvalParts'. -/
def ivalPartsCard : Claim7 := { stood := { row := ivalPartsRow, standIns := [], harness := (true, "b0098416713ba459b787d2f98cf27fd6b26d22393b194a234aebf24d443dae98"), looks := true }, kinds := [], alts := [], laidByText := true, laidKinds := [.data], laidTests := true, laidLooks := .later }
def IvalPartsCardSaid : Prop := Claim7.holds Tryd.pinned (.plain (OpenSpec.ofChange ivalPartsSpec)) ivalPartsCard

/-- THE TIED CARD OF 'gyrelaw05.IvalRing'. -/
def ivalRingCard : Claim7 := { stood := { row := ivalRingRow, standIns := [], harness := (true, "b0098416713ba459b787d2f98cf27fd6b26d22393b194a234aebf24d443dae98"), looks := true }, kinds := [], alts := [], laidByText := true, laidKinds := [.data], laidTests := true, laidLooks := .later }
def IvalRingCardSaid : Prop := Claim7.holds Tryd.pinned (.plain (OpenSpec.ofChange ivalRingSpec)) ivalRingCard

/-- THE TIED CARD OF 'gyrelaw05.IvalBad'. -/
def ivalBadCard : Claim7 := { stood := { row := ivalBadRow, standIns := [], harness := (true, "b0098416713ba459b787d2f98cf27fd6b26d22393b194a234aebf24d443dae98"), looks := true }, kinds := [], alts := [], laidByText := true, laidKinds := [.data], laidTests := true, laidLooks := .later }
def IvalBadCardSaid : Prop := Claim7.holds Tryd.pinned (.plain (OpenSpec.ofChange ivalBadSpec)) ivalBadCard

/-- THE TIED CARD OF 'gyrelaw06.InvHolds'. -/
def invHoldsCard : Claim7 := { stood := { row := invHoldsRow, standIns := [], harness := (true, "b0098416713ba459b787d2f98cf27fd6b26d22393b194a234aebf24d443dae98"), looks := true }, kinds := [], alts := [], laidByText := true, laidKinds := [.data], laidTests := true, laidLooks := .later }
def InvHoldsCardSaid : Prop := Claim7.holds Tryd.pinned (.plain (OpenSpec.ofChange invHoldsSpec)) invHoldsCard

/-- THE TIED CARD OF 'gyrelaw06.InvRoots'. -/
def invRootsCard : Claim7 := { stood := { row := invRootsRow, standIns := [], harness := (true, "b0098416713ba459b787d2f98cf27fd6b26d22393b194a234aebf24d443dae98"), looks := true }, kinds := [], alts := [], laidByText := true, laidKinds := [.data], laidTests := true, laidLooks := .later }
def InvRootsCardSaid : Prop := Claim7.holds Tryd.pinned (.plain (OpenSpec.ofChange invRootsSpec)) invRootsCard

/-- THE TIED CARD OF 'gyrelaw06.InvCubes'. -/
def invCubesCard : Claim7 := { stood := { row := invCubesRow, standIns := [], harness := (true, "b0098416713ba459b787d2f98cf27fd6b26d22393b194a234aebf24d443dae98"), looks := true }, kinds := [], alts := [], laidByText := true, laidKinds := [.data], laidTests := true, laidLooks := .later }
def InvCubesCardSaid : Prop := Claim7.holds Tryd.pinned (.plain (OpenSpec.ofChange invCubesSpec)) invCubesCard

/-- THE TIED CARD OF 'gyrelaw06.InvParts'. -/
def invPartsCard : Claim7 := { stood := { row := invPartsRow, standIns := [], harness := (true, "b0098416713ba459b787d2f98cf27fd6b26d22393b194a234aebf24d443dae98"), looks := true }, kinds := [], alts := [], laidByText := true, laidKinds := [.data], laidTests := true, laidLooks := .later }
def InvPartsCardSaid : Prop := Claim7.holds Tryd.pinned (.plain (OpenSpec.ofChange invPartsSpec)) invPartsCard

/-- THE SECOND FORM's CARD OF 'gyrelaw05.IvalHolds'. -/
def ivalHoldsUptoCard : Claim7 := { stood := { row := ivalHoldsUptoRow, standIns := [], harness := (true, "b0098416713ba459b787d2f98cf27fd6b26d22393b194a234aebf24d443dae98"), looks := true }, kinds := [], alts := [], laidByText := true, laidKinds := [.data], laidTests := true, laidLooks := .later }
def IvalHoldsUptoCardSaid : Prop := Claim7.holds Tryd.pinned (.plain (OpenSpec.upto ivalHoldsSpec)) ivalHoldsUptoCard

/-- THE SECOND FORM's CARD OF 'gyrelaw05.IvalParts'. -/
def ivalPartsUptoCard : Claim7 := { stood := { row := ivalPartsUptoRow, standIns := [], harness := (true, "b0098416713ba459b787d2f98cf27fd6b26d22393b194a234aebf24d443dae98"), looks := true }, kinds := [], alts := [], laidByText := true, laidKinds := [.data], laidTests := true, laidLooks := .later }
def IvalPartsUptoCardSaid : Prop := Claim7.holds Tryd.pinned (.plain (OpenSpec.upto ivalPartsSpec)) ivalPartsUptoCard

/-- THE SECOND FORM's CARD OF 'gyrelaw05.IvalRing'. -/
def ivalRingUptoCard : Claim7 := { stood := { row := ivalRingUptoRow, standIns := [], harness := (true, "b0098416713ba459b787d2f98cf27fd6b26d22393b194a234aebf24d443dae98"), looks := true }, kinds := [], alts := [], laidByText := true, laidKinds := [.data], laidTests := true, laidLooks := .later }
def IvalRingUptoCardSaid : Prop := Claim7.holds Tryd.pinned (.plain (OpenSpec.upto ivalRingSpec)) ivalRingUptoCard

/-- THE SECOND FORM's CARD OF 'gyrelaw05.IvalBad'. -/
def ivalBadUptoCard : Claim7 := { stood := { row := ivalBadUptoRow, standIns := [], harness := (true, "b0098416713ba459b787d2f98cf27fd6b26d22393b194a234aebf24d443dae98"), looks := true }, kinds := [], alts := [], laidByText := true, laidKinds := [.data], laidTests := true, laidLooks := .later }
def IvalBadUptoCardSaid : Prop := Claim7.holds Tryd.pinned (.plain (OpenSpec.upto ivalBadSpec)) ivalBadUptoCard

/-- THE SECOND FORM's CARD OF 'gyrelaw06.InvHolds'. -/
def invHoldsUptoCard : Claim7 := { stood := { row := invHoldsUptoRow, standIns := [], harness := (true, "b0098416713ba459b787d2f98cf27fd6b26d22393b194a234aebf24d443dae98"), looks := true }, kinds := [], alts := [], laidByText := true, laidKinds := [.data], laidTests := true, laidLooks := .later }
def InvHoldsUptoCardSaid : Prop := Claim7.holds Tryd.pinned (.plain (OpenSpec.upto invHoldsSpec)) invHoldsUptoCard

/-- THE SECOND FORM's CARD OF 'gyrelaw06.InvRoots'. -/
def invRootsUptoCard : Claim7 := { stood := { row := invRootsUptoRow, standIns := [], harness := (true, "b0098416713ba459b787d2f98cf27fd6b26d22393b194a234aebf24d443dae98"), looks := true }, kinds := [], alts := [], laidByText := true, laidKinds := [.data], laidTests := true, laidLooks := .later }
def InvRootsUptoCardSaid : Prop := Claim7.holds Tryd.pinned (.plain (OpenSpec.upto invRootsSpec)) invRootsUptoCard

/-- THE SECOND FORM's CARD OF 'gyrelaw06.InvCubes'. -/
def invCubesUptoCard : Claim7 := { stood := { row := invCubesUptoRow, standIns := [], harness := (true, "b0098416713ba459b787d2f98cf27fd6b26d22393b194a234aebf24d443dae98"), looks := true }, kinds := [], alts := [], laidByText := true, laidKinds := [.data], laidTests := true, laidLooks := .later }
def InvCubesUptoCardSaid : Prop := Claim7.holds Tryd.pinned (.plain (OpenSpec.upto invCubesSpec)) invCubesUptoCard

/-- THE SECOND FORM's CARD OF 'gyrelaw06.InvParts'. -/
def invPartsUptoCard : Claim7 := { stood := { row := invPartsUptoRow, standIns := [], harness := (true, "b0098416713ba459b787d2f98cf27fd6b26d22393b194a234aebf24d443dae98"), looks := true }, kinds := [], alts := [], laidByText := true, laidKinds := [.data], laidTests := true, laidLooks := .later }
def InvPartsUptoCardSaid : Prop := Claim7.holds Tryd.pinned (.plain (OpenSpec.upto invPartsSpec)) invPartsUptoCard
end Rows
end Go.Proofs.YtjfcndiodbaejaaDoor
