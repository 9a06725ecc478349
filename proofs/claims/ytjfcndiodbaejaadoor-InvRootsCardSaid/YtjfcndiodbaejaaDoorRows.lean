/-
  NARROWER THAN 'FOR EVERY INPUT', by the rows' own cells (each row's printed sentence says how): IvalHolds: laid · IvalParts: laid · IvalRing: laid · IvalBad: laid · InvHolds: laid · InvRoots: laid · InvCubes: laid · InvParts: laid.
  DERIVED. THE GIVEN ROWS OF THIS SEAT. 8 by the template 'for every input the law returns true; each argument reads behind the call as it read before'; 0 by the template 'total and deterministic' (their statements: YtjfcndiodbaejaaDoorTotals.lean).
  GIVEN WITH THE SEED: the statements are not yours to turn. If you find one false, say at which input.
  Laid BY PROGRAM, IN A SANDBOX (cutbox-rows.mjs): the forced cells as the released guide's own fill.sh prints them over the translation b50299fa64acc6eb… (all of the seat's roots in one cut). By AI agents, Wed Nov 11 2026. No macro, syntax, notation, axiom, sorry.
-/
import Derived.Test.YtjfcndiodbaejaaDoorChecked
import GoSem.Claim
import GoSem.ClaimJoined
import GoSem.ClaimMapViews
import Derived.JoinedTies
import Derived.KernelRfl
namespace Go.Proofs.YtjfcndiodbaejaaDoor
/- THE CELL 'sum', in the pinned program and in every row, IS THE sha256 OF THE DUMP (.gsa) THAT YtjfcndiodbaejaaDoorProg.lean LOADS. Nothing in Lean hashes anything: it is a label: what it is worth is what the hold of that sum in a sandbox is worth. -/
noncomputable def Tryd.pinned : Pinned := { name := "ytjfcndiodbaejaadoor", sum := "b50299fa64acc6eb0a74b5c4d96ae715d6acaaba4163d55c02f476e2eea8c593", checked := Tryd.checked }
namespace Rows
def none {H : Type} : Left H := { results := [], args := [] }

/- WHAT THE LISTED PACKAGE-LEVEL VARIABLES READ AS WHEN THE CALL BEGINS. Each datum BY PROGRAM (the guide's laid-datum.mjs) off the statement by which the dump's own 'gosem.cut.vars' lays the variable. In a bare row this is a premise. The card (YtjfcndiodbaejaaDoorCards.lean) ties it to the program's text. -/
def laid_gyre_quot_least {H : Type} : DataW H := .agg [.lit (.int .u64 0), .lit (.int .u64 0), .lit (.int .u64 0), .lit (.int .u64 9223372036854775808)]

/-- 'gyrelaw05.IvalHolds': WHATEVER THE INPUT: true; the input reads as it did. -/
def ivalHoldsSpec : ChangeSpec := { name := "ivalHolds", fn := fun _ => fun
  | [d1, d2, d3, d4, d5, d6] => { results := [.lit (.bool true)], args := [d1, d2, d3, d4, d5, d6] }
  | _ => none }
def ivalHoldsRow : OpenClaim := { program := "ytjfcndiodbaejaadoor", sum := "b50299fa64acc6eb0a74b5c4d96ae715d6acaaba4163d55c02f476e2eea8c593", func := "gyre/gyrelaw05.IvalHolds", spec := "ivalHolds", inPlace := ["math/bits.Add64"], unfollowed := true, recurses := true, named := ["gyre/quot.least"], apart := false, laid := [("gyre/quot.least", laid_gyre_quot_least)] }
def IvalHoldsSaid : Prop := ivalHoldsRow.holds Tryd.pinned (OpenSpec.ofChange ivalHoldsSpec)

/-- ITS FALSE NEIGHBOUR: 'it returns false'. Refute it at one input. -/
def ivalHoldsWrong : ChangeSpec := { name := "ivalHolds", fn := fun _ => fun
  | [d1, d2, d3, d4, d5, d6] => { results := [.lit (.bool false)], args := [d1, d2, d3, d4, d5, d6] }
  | _ => none }
def IvalHoldsWrongFalsely : Prop := ivalHoldsRow.holds Tryd.pinned (OpenSpec.ofChange ivalHoldsWrong)

/-- 'gyrelaw05.IvalParts': WHATEVER THE INPUT: true; the input reads as it did. -/
def ivalPartsSpec : ChangeSpec := { name := "ivalParts", fn := fun _ => fun
  | [d1, d2, d3, d4] => { results := [.lit (.bool true)], args := [d1, d2, d3, d4] }
  | _ => none }
def ivalPartsRow : OpenClaim := { program := "ytjfcndiodbaejaadoor", sum := "b50299fa64acc6eb0a74b5c4d96ae715d6acaaba4163d55c02f476e2eea8c593", func := "gyre/gyrelaw05.IvalParts", spec := "ivalParts", inPlace := ["math/bits.Add64"], unfollowed := true, recurses := true, named := ["gyre/quot.least"], apart := false, laid := [("gyre/quot.least", laid_gyre_quot_least)] }
def IvalPartsSaid : Prop := ivalPartsRow.holds Tryd.pinned (OpenSpec.ofChange ivalPartsSpec)

/-- ITS FALSE NEIGHBOUR: 'it returns false'. Refute it at one input. -/
def ivalPartsWrong : ChangeSpec := { name := "ivalParts", fn := fun _ => fun
  | [d1, d2, d3, d4] => { results := [.lit (.bool false)], args := [d1, d2, d3, d4] }
  | _ => none }
def IvalPartsWrongFalsely : Prop := ivalPartsRow.holds Tryd.pinned (OpenSpec.ofChange ivalPartsWrong)

/-- 'gyrelaw05.IvalRing': WHATEVER THE INPUT: true; the input reads as it did. -/
def ivalRingSpec : ChangeSpec := { name := "ivalRing", fn := fun _ => fun
  | [d1, d2, d3] => { results := [.lit (.bool true)], args := [d1, d2, d3] }
  | _ => none }
def ivalRingRow : OpenClaim := { program := "ytjfcndiodbaejaadoor", sum := "b50299fa64acc6eb0a74b5c4d96ae715d6acaaba4163d55c02f476e2eea8c593", func := "gyre/gyrelaw05.IvalRing", spec := "ivalRing", inPlace := ["math/bits.Add64"], unfollowed := true, recurses := true, named := ["gyre/quot.least"], apart := false, laid := [("gyre/quot.least", laid_gyre_quot_least)] }
def IvalRingSaid : Prop := ivalRingRow.holds Tryd.pinned (OpenSpec.ofChange ivalRingSpec)

/-- ITS FALSE NEIGHBOUR: 'it returns false'. Refute it at one input. -/
def ivalRingWrong : ChangeSpec := { name := "ivalRing", fn := fun _ => fun
  | [d1, d2, d3] => { results := [.lit (.bool false)], args := [d1, d2, d3] }
  | _ => none }
def IvalRingWrongFalsely : Prop := ivalRingRow.holds Tryd.pinned (OpenSpec.ofChange ivalRingWrong)

/-- 'gyrelaw05.IvalBad': WHATEVER THE INPUT: true; the input reads as it did. -/
def ivalBadSpec : ChangeSpec := { name := "ivalBad", fn := fun _ => fun
  | [d1, d2] => { results := [.lit (.bool true)], args := [d1, d2] }
  | _ => none }
def ivalBadRow : OpenClaim := { program := "ytjfcndiodbaejaadoor", sum := "b50299fa64acc6eb0a74b5c4d96ae715d6acaaba4163d55c02f476e2eea8c593", func := "gyre/gyrelaw05.IvalBad", spec := "ivalBad", inPlace := ["math/bits.Add64"], unfollowed := true, recurses := true, named := ["gyre/quot.least"], apart := false, laid := [("gyre/quot.least", laid_gyre_quot_least)] }
def IvalBadSaid : Prop := ivalBadRow.holds Tryd.pinned (OpenSpec.ofChange ivalBadSpec)

/-- ITS FALSE NEIGHBOUR: 'it returns false'. Refute it at one input. -/
def ivalBadWrong : ChangeSpec := { name := "ivalBad", fn := fun _ => fun
  | [d1, d2] => { results := [.lit (.bool false)], args := [d1, d2] }
  | _ => none }
def IvalBadWrongFalsely : Prop := ivalBadRow.holds Tryd.pinned (OpenSpec.ofChange ivalBadWrong)

/-- 'gyrelaw06.InvHolds': WHATEVER THE INPUT: true; the input reads as it did. -/
def invHoldsSpec : ChangeSpec := { name := "invHolds", fn := fun _ => fun
  | [d1, d2, d3, d4] => { results := [.lit (.bool true)], args := [d1, d2, d3, d4] }
  | _ => none }
def invHoldsRow : OpenClaim := { program := "ytjfcndiodbaejaadoor", sum := "b50299fa64acc6eb0a74b5c4d96ae715d6acaaba4163d55c02f476e2eea8c593", func := "gyre/gyrelaw06.InvHolds", spec := "invHolds", inPlace := ["math/bits.Add64"], unfollowed := true, recurses := true, named := ["gyre/quot.least"], apart := false, laid := [("gyre/quot.least", laid_gyre_quot_least)] }
def InvHoldsSaid : Prop := invHoldsRow.holds Tryd.pinned (OpenSpec.ofChange invHoldsSpec)

/-- ITS FALSE NEIGHBOUR: 'it returns false'. Refute it at one input. -/
def invHoldsWrong : ChangeSpec := { name := "invHolds", fn := fun _ => fun
  | [d1, d2, d3, d4] => { results := [.lit (.bool false)], args := [d1, d2, d3, d4] }
  | _ => none }
def InvHoldsWrongFalsely : Prop := invHoldsRow.holds Tryd.pinned (OpenSpec.ofChange invHoldsWrong)

/-- 'gyrelaw06.InvRoots': WHATEVER THE INPUT: true; the input reads as it did. -/
def invRootsSpec : ChangeSpec := { name := "invRoots", fn := fun _ => fun
  | [d1, d2] => { results := [.lit (.bool true)], args := [d1, d2] }
  | _ => none }
def invRootsRow : OpenClaim := { program := "ytjfcndiodbaejaadoor", sum := "b50299fa64acc6eb0a74b5c4d96ae715d6acaaba4163d55c02f476e2eea8c593", func := "gyre/gyrelaw06.InvRoots", spec := "invRoots", inPlace := ["math/bits.Add64"], unfollowed := true, recurses := true, named := ["gyre/quot.least"], apart := false, laid := [("gyre/quot.least", laid_gyre_quot_least)] }
def InvRootsSaid : Prop := invRootsRow.holds Tryd.pinned (OpenSpec.ofChange invRootsSpec)

/-- ITS FALSE NEIGHBOUR: 'it returns false'. Refute it at one input. -/
def invRootsWrong : ChangeSpec := { name := "invRoots", fn := fun _ => fun
  | [d1, d2] => { results := [.lit (.bool false)], args := [d1, d2] }
  | _ => none }
def InvRootsWrongFalsely : Prop := invRootsRow.holds Tryd.pinned (OpenSpec.ofChange invRootsWrong)

/-- 'gyrelaw06.InvCubes': WHATEVER THE INPUT: true; the input reads as it did. -/
def invCubesSpec : ChangeSpec := { name := "invCubes", fn := fun _ => fun
  | [d1, d2] => { results := [.lit (.bool true)], args := [d1, d2] }
  | _ => none }
def invCubesRow : OpenClaim := { program := "ytjfcndiodbaejaadoor", sum := "b50299fa64acc6eb0a74b5c4d96ae715d6acaaba4163d55c02f476e2eea8c593", func := "gyre/gyrelaw06.InvCubes", spec := "invCubes", inPlace := ["math/bits.Add64"], unfollowed := true, recurses := true, named := ["gyre/quot.least"], apart := false, laid := [("gyre/quot.least", laid_gyre_quot_least)] }
def InvCubesSaid : Prop := invCubesRow.holds Tryd.pinned (OpenSpec.ofChange invCubesSpec)

/-- ITS FALSE NEIGHBOUR: 'it returns false'. Refute it at one input. -/
def invCubesWrong : ChangeSpec := { name := "invCubes", fn := fun _ => fun
  | [d1, d2] => { results := [.lit (.bool false)], args := [d1, d2] }
  | _ => none }
def InvCubesWrongFalsely : Prop := invCubesRow.holds Tryd.pinned (OpenSpec.ofChange invCubesWrong)

/-- 'gyrelaw06.InvParts': WHATEVER THE INPUT: true; the input reads as it did. -/
def invPartsSpec : ChangeSpec := { name := "invParts", fn := fun _ => fun
  | [d1, d2, d3, d4] => { results := [.lit (.bool true)], args := [d1, d2, d3, d4] }
  | _ => none }
def invPartsRow : OpenClaim := { program := "ytjfcndiodbaejaadoor", sum := "b50299fa64acc6eb0a74b5c4d96ae715d6acaaba4163d55c02f476e2eea8c593", func := "gyre/gyrelaw06.InvParts", spec := "invParts", inPlace := ["math/bits.Add64"], unfollowed := true, recurses := true, named := ["gyre/quot.least"], apart := false, laid := [("gyre/quot.least", laid_gyre_quot_least)] }
def InvPartsSaid : Prop := invPartsRow.holds Tryd.pinned (OpenSpec.ofChange invPartsSpec)

/-- ITS FALSE NEIGHBOUR: 'it returns false'. Refute it at one input. -/
def invPartsWrong : ChangeSpec := { name := "invParts", fn := fun _ => fun
  | [d1, d2, d3, d4] => { results := [.lit (.bool false)], args := [d1, d2, d3, d4] }
  | _ => none }
def InvPartsWrongFalsely : Prop := invPartsRow.holds Tryd.pinned (OpenSpec.ofChange invPartsWrong)

/- THE SECOND FORM. 'bulk': how many values and letters a reading holds, each counted each time it is reached (what is shared counts as often as it is met; a slice's spare places count too). A statement '..UptoSaid' is the law's where the arguments, and the package variables that the reading takes, are together of bulk at most 1048576: NARROWER than '..Said'. Prove '..Said' where nothing that the law and all that it calls make is longer than what came in: it says more and counts as full. Else prove '..UptoSaid'. A law counts once. -/
mutual
def uptoBulk {H : Type} : DataW H → Nat
  | .lit (.string bytes) => bytes.length + 1
  | .lit _ => 1
  | .nil => 1
  | .ptr d => uptoBulk d + 1
  | .slice elems spare => uptoBulkAll elems + uptoBulkAll spare + 1
  | .agg parts => uptoBulkAll parts + 1
  | .iface _ d => uptoBulk d + 1
  | .map entries => uptoBulkEntries entries + 1
  | .held _ => 1
def uptoBulkAll {H : Type} : List (DataW H) → Nat
  | [] => 0
  | d :: r => uptoBulk d + uptoBulkAll r
def uptoBulkEntries {H : Type} : List (Lit × DataW H) → Nat
  | [] => 0
  | x :: r => uptoBulkEntry x + uptoBulkEntries r
def uptoBulkEntry {H : Type} : Lit × DataW H → Nat
  | (.string bytes, d) => bytes.length + uptoBulk d + 1
  | (_, d) => uptoBulk d + 1
 end
def uptoSmall : (H : Type) → List (DataW H) → Bool := fun _ ds => decide (uptoBulkAll ds ≤ 1048576)
def OpenSpec.upto (s : _root_.Go.ChangeSpec) : _root_.Go.OpenSpec := { _root_.Go.OpenSpec.ofChange s with cond := some uptoSmall }

/-- 'gyrelaw05.IvalHolds', WHERE WHAT IT READS IS OF BULK AT MOST 1048576: true; the input reads as it did. -/
def ivalHoldsUptoRow : OpenClaim := { program := "ytjfcndiodbaejaadoor", sum := "b50299fa64acc6eb0a74b5c4d96ae715d6acaaba4163d55c02f476e2eea8c593", func := "gyre/gyrelaw05.IvalHolds", spec := "ivalHolds", inPlace := ["math/bits.Add64"], unfollowed := true, recurses := true, named := ["gyre/quot.least"], apart := false, laid := [("gyre/quot.least", laid_gyre_quot_least)], narrowed := true }
def IvalHoldsUptoSaid : Prop := ivalHoldsUptoRow.holds Tryd.pinned (OpenSpec.upto ivalHoldsSpec)

/-- 'gyrelaw05.IvalParts', WHERE WHAT IT READS IS OF BULK AT MOST 1048576: true; the input reads as it did. -/
def ivalPartsUptoRow : OpenClaim := { program := "ytjfcndiodbaejaadoor", sum := "b50299fa64acc6eb0a74b5c4d96ae715d6acaaba4163d55c02f476e2eea8c593", func := "gyre/gyrelaw05.IvalParts", spec := "ivalParts", inPlace := ["math/bits.Add64"], unfollowed := true, recurses := true, named := ["gyre/quot.least"], apart := false, laid := [("gyre/quot.least", laid_gyre_quot_least)], narrowed := true }
def IvalPartsUptoSaid : Prop := ivalPartsUptoRow.holds Tryd.pinned (OpenSpec.upto ivalPartsSpec)

/-- 'gyrelaw05.IvalRing', WHERE WHAT IT READS IS OF BULK AT MOST 1048576: true; the input reads as it did. -/
def ivalRingUptoRow : OpenClaim := { program := "ytjfcndiodbaejaadoor", sum := "b50299fa64acc6eb0a74b5c4d96ae715d6acaaba4163d55c02f476e2eea8c593", func := "gyre/gyrelaw05.IvalRing", spec := "ivalRing", inPlace := ["math/bits.Add64"], unfollowed := true, recurses := true, named := ["gyre/quot.least"], apart := false, laid := [("gyre/quot.least", laid_gyre_quot_least)], narrowed := true }
def IvalRingUptoSaid : Prop := ivalRingUptoRow.holds Tryd.pinned (OpenSpec.upto ivalRingSpec)

/-- 'gyrelaw05.IvalBad', WHERE WHAT IT READS IS OF BULK AT MOST 1048576: true; the input reads as it did. -/
def ivalBadUptoRow : OpenClaim := { program := "ytjfcndiodbaejaadoor", sum := "b50299fa64acc6eb0a74b5c4d96ae715d6acaaba4163d55c02f476e2eea8c593", func := "gyre/gyrelaw05.IvalBad", spec := "ivalBad", inPlace := ["math/bits.Add64"], unfollowed := true, recurses := true, named := ["gyre/quot.least"], apart := false, laid := [("gyre/quot.least", laid_gyre_quot_least)], narrowed := true }
def IvalBadUptoSaid : Prop := ivalBadUptoRow.holds Tryd.pinned (OpenSpec.upto ivalBadSpec)

/-- 'gyrelaw06.InvHolds', WHERE WHAT IT READS IS OF BULK AT MOST 1048576: true; the input reads as it did. -/
def invHoldsUptoRow : OpenClaim := { program := "ytjfcndiodbaejaadoor", sum := "b50299fa64acc6eb0a74b5c4d96ae715d6acaaba4163d55c02f476e2eea8c593", func := "gyre/gyrelaw06.InvHolds", spec := "invHolds", inPlace := ["math/bits.Add64"], unfollowed := true, recurses := true, named := ["gyre/quot.least"], apart := false, laid := [("gyre/quot.least", laid_gyre_quot_least)], narrowed := true }
def InvHoldsUptoSaid : Prop := invHoldsUptoRow.holds Tryd.pinned (OpenSpec.upto invHoldsSpec)

/-- 'gyrelaw06.InvRoots', WHERE WHAT IT READS IS OF BULK AT MOST 1048576: true; the input reads as it did. -/
def invRootsUptoRow : OpenClaim := { program := "ytjfcndiodbaejaadoor", sum := "b50299fa64acc6eb0a74b5c4d96ae715d6acaaba4163d55c02f476e2eea8c593", func := "gyre/gyrelaw06.InvRoots", spec := "invRoots", inPlace := ["math/bits.Add64"], unfollowed := true, recurses := true, named := ["gyre/quot.least"], apart := false, laid := [("gyre/quot.least", laid_gyre_quot_least)], narrowed := true }
def InvRootsUptoSaid : Prop := invRootsUptoRow.holds Tryd.pinned (OpenSpec.upto invRootsSpec)

/-- 'gyrelaw06.InvCubes', WHERE WHAT IT READS IS OF BULK AT MOST 1048576: true; the input reads as it did. -/
def invCubesUptoRow : OpenClaim := { program := "ytjfcndiodbaejaadoor", sum := "b50299fa64acc6eb0a74b5c4d96ae715d6acaaba4163d55c02f476e2eea8c593", func := "gyre/gyrelaw06.InvCubes", spec := "invCubes", inPlace := ["math/bits.Add64"], unfollowed := true, recurses := true, named := ["gyre/quot.least"], apart := false, laid := [("gyre/quot.least", laid_gyre_quot_least)], narrowed := true }
def InvCubesUptoSaid : Prop := invCubesUptoRow.holds Tryd.pinned (OpenSpec.upto invCubesSpec)

/-- 'gyrelaw06.InvParts', WHERE WHAT IT READS IS OF BULK AT MOST 1048576: true; the input reads as it did. -/
def invPartsUptoRow : OpenClaim := { program := "ytjfcndiodbaejaadoor", sum := "b50299fa64acc6eb0a74b5c4d96ae715d6acaaba4163d55c02f476e2eea8c593", func := "gyre/gyrelaw06.InvParts", spec := "invParts", inPlace := ["math/bits.Add64"], unfollowed := true, recurses := true, named := ["gyre/quot.least"], apart := false, laid := [("gyre/quot.least", laid_gyre_quot_least)], narrowed := true }
def InvPartsUptoSaid : Prop := invPartsUptoRow.holds Tryd.pinned (OpenSpec.upto invPartsSpec)

end Rows
end Go.Proofs.YtjfcndiodbaejaaDoor
