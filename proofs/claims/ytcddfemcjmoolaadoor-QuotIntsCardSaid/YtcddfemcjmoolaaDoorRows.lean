/-
  NARROWER THAN 'FOR EVERY INPUT', by the rows' own cells (each row's printed sentence says how): QuotTells: laid · QuotFloor: laid · QuotNear: laid · QuotTurns: laid · QuotInts: laid.
  DERIVED. THE GIVEN ROWS OF THIS SEAT. 5 by the template 'for every input the law returns true; each argument reads behind the call as it read before'; 0 by the template 'total and deterministic' (their statements: YtcddfemcjmoolaaDoorTotals.lean).
  GIVEN WITH THE SEED: the statements are not yours to turn. If you find one false, say at which input.
  Laid BY PROGRAM, IN A SANDBOX (cutbox-rows.mjs): the forced cells as the released guide's own fill.sh prints them over the translation e76b7df45effc6e6… (all of the seat's roots in one cut). By AI agents, Wed Nov 11 2026. No macro, syntax, notation, axiom, sorry.
-/
import Derived.Test.YtcddfemcjmoolaaDoorChecked
import GoSem.Claim
import GoSem.ClaimJoined
import GoSem.ClaimMapViews
import Derived.JoinedTies
import Derived.KernelRfl
namespace Go.Proofs.YtcddfemcjmoolaaDoor
/- THE CELL 'sum', in the pinned program and in every row, IS THE sha256 OF THE DUMP (.gsa) THAT YtcddfemcjmoolaaDoorProg.lean LOADS. Nothing in Lean hashes anything: it is a label: what it is worth is what the hold of that sum in a sandbox is worth. -/
noncomputable def Tryd.pinned : Pinned := { name := "ytcddfemcjmoolaadoor", sum := "e76b7df45effc6e6cab979a056f8abe6079d118b6569dad4428f616286146054", checked := Tryd.checked }
namespace Rows
def none {H : Type} : Left H := { results := [], args := [] }

/- WHAT THE LISTED PACKAGE-LEVEL VARIABLES READ AS WHEN THE CALL BEGINS. Each datum BY PROGRAM (the guide's laid-datum.mjs) off the statement by which the dump's own 'gosem.cut.vars' lays the variable. In a bare row this is a premise. The card (YtcddfemcjmoolaaDoorCards.lean) ties it to the program's text. -/
def laid_gyre_quot_least {H : Type} : DataW H := .agg [.lit (.int .u64 0), .lit (.int .u64 0), .lit (.int .u64 0), .lit (.int .u64 9223372036854775808)]

/-- 'gyrelaw03.QuotTells': WHATEVER THE INPUT: true; the input reads as it did. -/
def quotTellsSpec : ChangeSpec := { name := "quotTells", fn := fun _ => fun
  | [d1, d2, d3, d4, d5] => { results := [.lit (.bool true)], args := [d1, d2, d3, d4, d5] }
  | _ => none }
def quotTellsRow : OpenClaim := { program := "ytcddfemcjmoolaadoor", sum := "e76b7df45effc6e6cab979a056f8abe6079d118b6569dad4428f616286146054", func := "gyre/gyrelaw03.QuotTells", spec := "quotTells", inPlace := ["math/bits.Add64"], unfollowed := true, recurses := true, named := ["gyre/quot.least"], apart := false, laid := [("gyre/quot.least", laid_gyre_quot_least)] }
def QuotTellsSaid : Prop := quotTellsRow.holds Tryd.pinned (OpenSpec.ofChange quotTellsSpec)

/-- ITS FALSE NEIGHBOUR: 'it returns false'. Refute it at one input. -/
def quotTellsWrong : ChangeSpec := { name := "quotTells", fn := fun _ => fun
  | [d1, d2, d3, d4, d5] => { results := [.lit (.bool false)], args := [d1, d2, d3, d4, d5] }
  | _ => none }
def QuotTellsWrongFalsely : Prop := quotTellsRow.holds Tryd.pinned (OpenSpec.ofChange quotTellsWrong)

/-- 'gyrelaw03.QuotFloor': WHATEVER THE INPUT: true; the input reads as it did. -/
def quotFloorSpec : ChangeSpec := { name := "quotFloor", fn := fun _ => fun
  | [d1, d2] => { results := [.lit (.bool true)], args := [d1, d2] }
  | _ => none }
def quotFloorRow : OpenClaim := { program := "ytcddfemcjmoolaadoor", sum := "e76b7df45effc6e6cab979a056f8abe6079d118b6569dad4428f616286146054", func := "gyre/gyrelaw03.QuotFloor", spec := "quotFloor", inPlace := ["math/bits.Add64"], unfollowed := true, recurses := true, named := ["gyre/quot.least"], apart := false, laid := [("gyre/quot.least", laid_gyre_quot_least)] }
def QuotFloorSaid : Prop := quotFloorRow.holds Tryd.pinned (OpenSpec.ofChange quotFloorSpec)

/-- ITS FALSE NEIGHBOUR: 'it returns false'. Refute it at one input. -/
def quotFloorWrong : ChangeSpec := { name := "quotFloor", fn := fun _ => fun
  | [d1, d2] => { results := [.lit (.bool false)], args := [d1, d2] }
  | _ => none }
def QuotFloorWrongFalsely : Prop := quotFloorRow.holds Tryd.pinned (OpenSpec.ofChange quotFloorWrong)

/-- 'gyrelaw03.QuotNear': WHATEVER THE INPUT: true; the input reads as it did. -/
def quotNearSpec : ChangeSpec := { name := "quotNear", fn := fun _ => fun
  | [d1, d2] => { results := [.lit (.bool true)], args := [d1, d2] }
  | _ => none }
def quotNearRow : OpenClaim := { program := "ytcddfemcjmoolaadoor", sum := "e76b7df45effc6e6cab979a056f8abe6079d118b6569dad4428f616286146054", func := "gyre/gyrelaw03.QuotNear", spec := "quotNear", inPlace := ["math/bits.Add64"], unfollowed := true, recurses := true, named := ["gyre/quot.least"], apart := false, laid := [("gyre/quot.least", laid_gyre_quot_least)] }
def QuotNearSaid : Prop := quotNearRow.holds Tryd.pinned (OpenSpec.ofChange quotNearSpec)

/-- ITS FALSE NEIGHBOUR: 'it returns false'. Refute it at one input. -/
def quotNearWrong : ChangeSpec := { name := "quotNear", fn := fun _ => fun
  | [d1, d2] => { results := [.lit (.bool false)], args := [d1, d2] }
  | _ => none }
def QuotNearWrongFalsely : Prop := quotNearRow.holds Tryd.pinned (OpenSpec.ofChange quotNearWrong)

/-- 'gyrelaw03.QuotTurns': WHATEVER THE INPUT: true; the input reads as it did. -/
def quotTurnsSpec : ChangeSpec := { name := "quotTurns", fn := fun _ => fun
  | [d1, d2] => { results := [.lit (.bool true)], args := [d1, d2] }
  | _ => none }
def quotTurnsRow : OpenClaim := { program := "ytcddfemcjmoolaadoor", sum := "e76b7df45effc6e6cab979a056f8abe6079d118b6569dad4428f616286146054", func := "gyre/gyrelaw03.QuotTurns", spec := "quotTurns", inPlace := ["math/bits.Add64"], unfollowed := true, recurses := true, named := ["gyre/quot.least"], apart := false, laid := [("gyre/quot.least", laid_gyre_quot_least)] }
def QuotTurnsSaid : Prop := quotTurnsRow.holds Tryd.pinned (OpenSpec.ofChange quotTurnsSpec)

/-- ITS FALSE NEIGHBOUR: 'it returns false'. Refute it at one input. -/
def quotTurnsWrong : ChangeSpec := { name := "quotTurns", fn := fun _ => fun
  | [d1, d2] => { results := [.lit (.bool false)], args := [d1, d2] }
  | _ => none }
def QuotTurnsWrongFalsely : Prop := quotTurnsRow.holds Tryd.pinned (OpenSpec.ofChange quotTurnsWrong)

/-- 'gyrelaw03.QuotInts': WHATEVER THE INPUT: true; the input reads as it did. -/
def quotIntsSpec : ChangeSpec := { name := "quotInts", fn := fun _ => fun
  | [d1, d2, d3] => { results := [.lit (.bool true)], args := [d1, d2, d3] }
  | _ => none }
def quotIntsRow : OpenClaim := { program := "ytcddfemcjmoolaadoor", sum := "e76b7df45effc6e6cab979a056f8abe6079d118b6569dad4428f616286146054", func := "gyre/gyrelaw03.QuotInts", spec := "quotInts", inPlace := ["math/bits.Add64"], unfollowed := true, recurses := true, named := ["gyre/quot.least"], apart := false, laid := [("gyre/quot.least", laid_gyre_quot_least)] }
def QuotIntsSaid : Prop := quotIntsRow.holds Tryd.pinned (OpenSpec.ofChange quotIntsSpec)

/-- ITS FALSE NEIGHBOUR: 'it returns false'. Refute it at one input. -/
def quotIntsWrong : ChangeSpec := { name := "quotInts", fn := fun _ => fun
  | [d1, d2, d3] => { results := [.lit (.bool false)], args := [d1, d2, d3] }
  | _ => none }
def QuotIntsWrongFalsely : Prop := quotIntsRow.holds Tryd.pinned (OpenSpec.ofChange quotIntsWrong)

/- THE SECOND FORM. 'bulk': how many values and letters a reading holds, each counted each time it is reached (what is shared counts as often as it is met; a slice's spare places count too). A statement '..UptoSaid' is the law's where the arguments, and the package variables that the reading takes, are together of bulk at most 1048576: NARROWER than '..Said'. Prove '..Said' where nothing that the law and all that it calls make is longer than what came in: it says more and counts as full. Else prove '..UptoSaid'. A law counts once. -/
mutual
def uptoBulk {H : Type} : DataW H → Nat
  | .lit (.string bytes) => bytes.length + 1
  | .lit _ => 1
  | .nil => 1
  | .ptr d => uptoBulk d + 1
  | .slice elems spare => uptoBulkAll elems + uptoBulkAll spare + 1
  | .agg parts => uptoBulkAll parts + 1
  | .iface _ d => uptoBulk d + 1
  | .map entries => uptoBulkEntries entries + 1
  | .held _ => 1
def uptoBulkAll {H : Type} : List (DataW H) → Nat
  | [] => 0
  | d :: r => uptoBulk d + uptoBulkAll r
def uptoBulkEntries {H : Type} : List (Lit × DataW H) → Nat
  | [] => 0
  | x :: r => uptoBulkEntry x + uptoBulkEntries r
def uptoBulkEntry {H : Type} : Lit × DataW H → Nat
  | (.string bytes, d) => bytes.length + uptoBulk d + 1
  | (_, d) => uptoBulk d + 1
 end
def uptoSmall : (H : Type) → List (DataW H) → Bool := fun _ ds => decide (uptoBulkAll ds ≤ 1048576)
def OpenSpec.upto (s : _root_.Go.ChangeSpec) : _root_.Go.OpenSpec := { _root_.Go.OpenSpec.ofChange s with cond := some uptoSmall }

/-- 'gyrelaw03.QuotTells', WHERE WHAT IT READS IS OF BULK AT MOST 1048576: true; the input reads as it did. -/
def quotTellsUptoRow : OpenClaim := { program := "ytcddfemcjmoolaadoor", sum := "e76b7df45effc6e6cab979a056f8abe6079d118b6569dad4428f616286146054", func := "gyre/gyrelaw03.QuotTells", spec := "quotTells", inPlace := ["math/bits.Add64"], unfollowed := true, recurses := true, named := ["gyre/quot.least"], apart := false, laid := [("gyre/quot.least", laid_gyre_quot_least)], narrowed := true }
def QuotTellsUptoSaid : Prop := quotTellsUptoRow.holds Tryd.pinned (OpenSpec.upto quotTellsSpec)

/-- 'gyrelaw03.QuotFloor', WHERE WHAT IT READS IS OF BULK AT MOST 1048576: true; the input reads as it did. -/
def quotFloorUptoRow : OpenClaim := { program := "ytcddfemcjmoolaadoor", sum := "e76b7df45effc6e6cab979a056f8abe6079d118b6569dad4428f616286146054", func := "gyre/gyrelaw03.QuotFloor", spec := "quotFloor", inPlace := ["math/bits.Add64"], unfollowed := true, recurses := true, named := ["gyre/quot.least"], apart := false, laid := [("gyre/quot.least", laid_gyre_quot_least)], narrowed := true }
def QuotFloorUptoSaid : Prop := quotFloorUptoRow.holds Tryd.pinned (OpenSpec.upto quotFloorSpec)

/-- 'gyrelaw03.QuotNear', WHERE WHAT IT READS IS OF BULK AT MOST 1048576: true; the input reads as it did. -/
def quotNearUptoRow : OpenClaim := { program := "ytcddfemcjmoolaadoor", sum := "e76b7df45effc6e6cab979a056f8abe6079d118b6569dad4428f616286146054", func := "gyre/gyrelaw03.QuotNear", spec := "quotNear", inPlace := ["math/bits.Add64"], unfollowed := true, recurses := true, named := ["gyre/quot.least"], apart := false, laid := [("gyre/quot.least", laid_gyre_quot_least)], narrowed := true }
def QuotNearUptoSaid : Prop := quotNearUptoRow.holds Tryd.pinned (OpenSpec.upto quotNearSpec)

/-- 'gyrelaw03.QuotTurns', WHERE WHAT IT READS IS OF BULK AT MOST 1048576: true; the input reads as it did. -/
def quotTurnsUptoRow : OpenClaim := { program := "ytcddfemcjmoolaadoor", sum := "e76b7df45effc6e6cab979a056f8abe6079d118b6569dad4428f616286146054", func := "gyre/gyrelaw03.QuotTurns", spec := "quotTurns", inPlace := ["math/bits.Add64"], unfollowed := true, recurses := true, named := ["gyre/quot.least"], apart := false, laid := [("gyre/quot.least", laid_gyre_quot_least)], narrowed := true }
def QuotTurnsUptoSaid : Prop := quotTurnsUptoRow.holds Tryd.pinned (OpenSpec.upto quotTurnsSpec)

/-- 'gyrelaw03.QuotInts', WHERE WHAT IT READS IS OF BULK AT MOST 1048576: true; the input reads as it did. -/
def quotIntsUptoRow : OpenClaim := { program := "ytcddfemcjmoolaadoor", sum := "e76b7df45effc6e6cab979a056f8abe6079d118b6569dad4428f616286146054", func := "gyre/gyrelaw03.QuotInts", spec := "quotInts", inPlace := ["math/bits.Add64"], unfollowed := true, recurses := true, named := ["gyre/quot.least"], apart := false, laid := [("gyre/quot.least", laid_gyre_quot_least)], narrowed := true }
def QuotIntsUptoSaid : Prop := quotIntsUptoRow.holds Tryd.pinned (OpenSpec.upto quotIntsSpec)

end Rows
end Go.Proofs.YtcddfemcjmoolaaDoor
