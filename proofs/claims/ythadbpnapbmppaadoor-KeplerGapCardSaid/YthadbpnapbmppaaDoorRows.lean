/-
  NARROWER THAN 'FOR EVERY INPUT', by the rows' own cells (each row's printed sentence says how): KeplerFuel: laid · KeplerGap: laid.
  DERIVED. THE GIVEN ROWS OF THIS SEAT. 2 by the template 'for every input the law returns true; each argument reads behind the call as it read before'; 0 by the template 'total and deterministic' (their statements: YthadbpnapbmppaaDoorTotals.lean).
  GIVEN WITH THE SEED: the statements are not yours to turn. If you find one false, say at which input.
  Laid BY PROGRAM, IN A SANDBOX (cutbox-rows.mjs): the forced cells as the released guide's own fill.sh prints them over the translation 0df56546ae79d15c… (all of the seat's roots in one cut). By AI agents, Wed Nov 11 2026. No macro, syntax, notation, axiom, sorry.
-/
import Derived.Test.YthadbpnapbmppaaDoorChecked
import GoSem.Claim
import GoSem.ClaimJoined
import GoSem.ClaimMapViews
import Derived.JoinedTies
import Derived.KernelRfl
namespace Go.Proofs.YthadbpnapbmppaaDoor
/- THE CELL 'sum', in the pinned program and in every row, IS THE sha256 OF THE DUMP (.gsa) THAT YthadbpnapbmppaaDoorProg.lean LOADS. Nothing in Lean hashes anything: it is a label: what it is worth is what the hold of that sum in a sandbox is worth. -/
noncomputable def Tryd.pinned : Pinned := { name := "ythadbpnapbmppaadoor", sum := "0df56546ae79d15c5722cc927e83461c41dac31c526efe97f57324e4a3d87256", checked := Tryd.checked }
namespace Rows
def none {H : Type} : Left H := { results := [], args := [] }

/- WHAT THE LISTED PACKAGE-LEVEL VARIABLES READ AS WHEN THE CALL BEGINS. Each datum BY PROGRAM (the guide's laid-datum.mjs) off the statement by which the dump's own 'gosem.cut.vars' lays the variable. In a bare row this is a premise. The card (YthadbpnapbmppaaDoorCards.lean) ties it to the program's text. -/
def laid_gyre_quot_least {H : Type} : DataW H := .agg [.lit (.int .u64 0), .lit (.int .u64 0), .lit (.int .u64 0), .lit (.int .u64 9223372036854775808)]

/-- 'gyrelaw20.KeplerFuel': WHATEVER THE INPUT: true; the input reads as it did. -/
def keplerFuelSpec : ChangeSpec := { name := "keplerFuel", fn := fun _ => fun
  | [d1, d2, d3, d4] => { results := [.lit (.bool true)], args := [d1, d2, d3, d4] }
  | _ => none }
def keplerFuelRow : OpenClaim := { program := "ythadbpnapbmppaadoor", sum := "0df56546ae79d15c5722cc927e83461c41dac31c526efe97f57324e4a3d87256", func := "gyre/gyrelaw20.KeplerFuel", spec := "keplerFuel", inPlace := ["math/bits.Add64"], unfollowed := true, recurses := true, named := ["gyre/quot.least"], apart := false, laid := [("gyre/quot.least", laid_gyre_quot_least)] }
def KeplerFuelSaid : Prop := keplerFuelRow.holds Tryd.pinned (OpenSpec.ofChange keplerFuelSpec)

/-- ITS FALSE NEIGHBOUR: 'it returns false'. Refute it at one input. -/
def keplerFuelWrong : ChangeSpec := { name := "keplerFuel", fn := fun _ => fun
  | [d1, d2, d3, d4] => { results := [.lit (.bool false)], args := [d1, d2, d3, d4] }
  | _ => none }
def KeplerFuelWrongFalsely : Prop := keplerFuelRow.holds Tryd.pinned (OpenSpec.ofChange keplerFuelWrong)

/-- 'gyrelaw20.KeplerGap': WHATEVER THE INPUT: true; the input reads as it did. -/
def keplerGapSpec : ChangeSpec := { name := "keplerGap", fn := fun _ => fun
  | [d1, d2, d3, d4] => { results := [.lit (.bool true)], args := [d1, d2, d3, d4] }
  | _ => none }
def keplerGapRow : OpenClaim := { program := "ythadbpnapbmppaadoor", sum := "0df56546ae79d15c5722cc927e83461c41dac31c526efe97f57324e4a3d87256", func := "gyre/gyrelaw20.KeplerGap", spec := "keplerGap", inPlace := ["math/bits.Add64"], unfollowed := true, recurses := true, named := ["gyre/quot.least"], apart := false, laid := [("gyre/quot.least", laid_gyre_quot_least)] }
def KeplerGapSaid : Prop := keplerGapRow.holds Tryd.pinned (OpenSpec.ofChange keplerGapSpec)

/-- ITS FALSE NEIGHBOUR: 'it returns false'. Refute it at one input. -/
def keplerGapWrong : ChangeSpec := { name := "keplerGap", fn := fun _ => fun
  | [d1, d2, d3, d4] => { results := [.lit (.bool false)], args := [d1, d2, d3, d4] }
  | _ => none }
def KeplerGapWrongFalsely : Prop := keplerGapRow.holds Tryd.pinned (OpenSpec.ofChange keplerGapWrong)

/- THE SECOND FORM. 'bulk': how many values and letters a reading holds, each counted each time it is reached (what is shared counts as often as it is met; a slice's spare places count too). A statement '..UptoSaid' is the law's where the arguments, and the package variables that the reading takes, are together of bulk at most 1048576: NARROWER than '..Said'. Prove '..Said' where nothing that the law and all that it calls make is longer than what came in: it says more and counts as full. Else prove '..UptoSaid'. A law counts once. -/
mutual
def uptoBulk {H : Type} : DataW H → Nat
  | .lit (.string bytes) => bytes.length + 1
  | .lit _ => 1
  | .nil => 1
  | .ptr d => uptoBulk d + 1
  | .slice elems spare => uptoBulkAll elems + uptoBulkAll spare + 1
  | .agg parts => uptoBulkAll parts + 1
  | .iface _ d => uptoBulk d + 1
  | .map entries => uptoBulkEntries entries + 1
  | .held _ => 1
def uptoBulkAll {H : Type} : List (DataW H) → Nat
  | [] => 0
  | d :: r => uptoBulk d + uptoBulkAll r
def uptoBulkEntries {H : Type} : List (Lit × DataW H) → Nat
  | [] => 0
  | x :: r => uptoBulkEntry x + uptoBulkEntries r
def uptoBulkEntry {H : Type} : Lit × DataW H → Nat
  | (.string bytes, d) => bytes.length + uptoBulk d + 1
  | (_, d) => uptoBulk d + 1
 end
def uptoSmall : (H : Type) → List (DataW H) → Bool := fun _ ds => decide (uptoBulkAll ds ≤ 1048576)
def OpenSpec.upto (s : _root_.Go.ChangeSpec) : _root_.Go.OpenSpec := { _root_.Go.OpenSpec.ofChange s with cond := some uptoSmall }

/-- 'gyrelaw20.KeplerFuel', WHERE WHAT IT READS IS OF BULK AT MOST 1048576: true; the input reads as it did. -/
def keplerFuelUptoRow : OpenClaim := { program := "ythadbpnapbmppaadoor", sum := "0df56546ae79d15c5722cc927e83461c41dac31c526efe97f57324e4a3d87256", func := "gyre/gyrelaw20.KeplerFuel", spec := "keplerFuel", inPlace := ["math/bits.Add64"], unfollowed := true, recurses := true, named := ["gyre/quot.least"], apart := false, laid := [("gyre/quot.least", laid_gyre_quot_least)], narrowed := true }
def KeplerFuelUptoSaid : Prop := keplerFuelUptoRow.holds Tryd.pinned (OpenSpec.upto keplerFuelSpec)

/-- 'gyrelaw20.KeplerGap', WHERE WHAT IT READS IS OF BULK AT MOST 1048576: true; the input reads as it did. -/
def keplerGapUptoRow : OpenClaim := { program := "ythadbpnapbmppaadoor", sum := "0df56546ae79d15c5722cc927e83461c41dac31c526efe97f57324e4a3d87256", func := "gyre/gyrelaw20.KeplerGap", spec := "keplerGap", inPlace := ["math/bits.Add64"], unfollowed := true, recurses := true, named := ["gyre/quot.least"], apart := false, laid := [("gyre/quot.least", laid_gyre_quot_least)], narrowed := true }
def KeplerGapUptoSaid : Prop := keplerGapUptoRow.holds Tryd.pinned (OpenSpec.upto keplerGapSpec)

end Rows
end Go.Proofs.YthadbpnapbmppaaDoor
