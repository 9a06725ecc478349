/-
  NARROWER THAN 'FOR EVERY INPUT', by the rows' own cells (each row's printed sentence says how): KeplerTells: laid · KeplerHolds: laid · KeplerRises: laid · OrbitTells: laid · OrbitEllipse: laid · OrbitEnds: laid · OrbitWhole: laid · OrbitRow: laid.
  DERIVED. THE GIVEN ROWS OF THIS SEAT. 8 by the template 'for every input the law returns true; each argument reads behind the call as it read before'; 0 by the template 'total and deterministic' (their statements: YthadbpnapbmppaaGreatDoorTotals.lean).
  GIVEN WITH THE SEED: the statements are not yours to turn. If you find one false, say at which input.
  Laid BY PROGRAM, IN A SANDBOX (cutbox-rows.mjs): the forced cells as the released guide's own fill.sh prints them over the translation ef5762f4042c5b4e… (all of the seat's roots in one cut). By AI agents, Wed Nov 11 2026. No macro, syntax, notation, axiom, sorry.
-/
import Derived.Test.YthadbpnapbmppaaGreatDoorChecked
import GoSem.Claim
import GoSem.ClaimJoined
import GoSem.ClaimMapViews
import Derived.JoinedTies
import Derived.KernelRfl
namespace Go.Proofs.YthadbpnapbmppaaGreatDoor
/- THE CELL 'sum', in the pinned program and in every row, IS THE sha256 OF THE DUMP (.gsa) THAT YthadbpnapbmppaaGreatDoorProg.lean LOADS. Nothing in Lean hashes anything: it is a label: what it is worth is what the hold of that sum in a sandbox is worth. -/
noncomputable def Tryz.pinned : Pinned := { name := "ythadbpnapbmppaagreatdoor", sum := "ef5762f4042c5b4e5ca0be44aba9c5c55352d8cfc3d251a126e10923726e8f4f", checked := Tryz.checked }
namespace Rows
def none {H : Type} : Left H := { results := [], args := [] }

/- WHAT THE LISTED PACKAGE-LEVEL VARIABLES READ AS WHEN THE CALL BEGINS. Each datum BY PROGRAM (the guide's laid-datum.mjs) off the statement by which the dump's own 'gosem.cut.vars' lays the variable. In a bare row this is a premise. The card (YthadbpnapbmppaaGreatDoorCards.lean) ties it to the program's text. -/
def laid_gyre_quot_least {H : Type} : DataW H := .agg [.lit (.int .u64 0), .lit (.int .u64 0), .lit (.int .u64 0), .lit (.int .u64 9223372036854775808)]
def laid_gyre_orbit_bad {H : Type} : DataW H := .agg [.lit (.int .i64 0), .lit (.int .i64 0), .lit (.bool true)]

/-- 'gyrelaw20.KeplerTells': WHATEVER THE INPUT: true; the input reads as it did. -/
def keplerTellsSpec : ChangeSpec := { name := "keplerTells", fn := fun _ => fun
  | [d1, d2, d3, d4] => { results := [.lit (.bool true)], args := [d1, d2, d3, d4] }
  | _ => none }
def keplerTellsRow : OpenClaim := { program := "ythadbpnapbmppaagreatdoor", sum := "ef5762f4042c5b4e5ca0be44aba9c5c55352d8cfc3d251a126e10923726e8f4f", func := "gyre/gyrelaw20.KeplerTells", spec := "keplerTells", inPlace := ["math/bits.Add64"], unfollowed := true, recurses := true, named := ["gyre/quot.least"], apart := false, laid := [("gyre/quot.least", laid_gyre_quot_least)] }
def KeplerTellsSaid : Prop := keplerTellsRow.holds Tryz.pinned (OpenSpec.ofChange keplerTellsSpec)

/-- ITS FALSE NEIGHBOUR: 'it returns false'. Refute it at one input. -/
def keplerTellsWrong : ChangeSpec := { name := "keplerTells", fn := fun _ => fun
  | [d1, d2, d3, d4] => { results := [.lit (.bool false)], args := [d1, d2, d3, d4] }
  | _ => none }
def KeplerTellsWrongFalsely : Prop := keplerTellsRow.holds Tryz.pinned (OpenSpec.ofChange keplerTellsWrong)

/-- 'gyrelaw20.KeplerHolds': WHATEVER THE INPUT: true; the input reads as it did. -/
def keplerHoldsSpec : ChangeSpec := { name := "keplerHolds", fn := fun _ => fun
  | [d1, d2, d3] => { results := [.lit (.bool true)], args := [d1, d2, d3] }
  | _ => none }
def keplerHoldsRow : OpenClaim := { program := "ythadbpnapbmppaagreatdoor", sum := "ef5762f4042c5b4e5ca0be44aba9c5c55352d8cfc3d251a126e10923726e8f4f", func := "gyre/gyrelaw20.KeplerHolds", spec := "keplerHolds", inPlace := ["math/bits.Add64"], unfollowed := true, recurses := true, named := ["gyre/quot.least"], apart := false, laid := [("gyre/quot.least", laid_gyre_quot_least)] }
def KeplerHoldsSaid : Prop := keplerHoldsRow.holds Tryz.pinned (OpenSpec.ofChange keplerHoldsSpec)

/-- ITS FALSE NEIGHBOUR: 'it returns false'. Refute it at one input. -/
def keplerHoldsWrong : ChangeSpec := { name := "keplerHolds", fn := fun _ => fun
  | [d1, d2, d3] => { results := [.lit (.bool false)], args := [d1, d2, d3] }
  | _ => none }
def KeplerHoldsWrongFalsely : Prop := keplerHoldsRow.holds Tryz.pinned (OpenSpec.ofChange keplerHoldsWrong)

/-- 'gyrelaw20.KeplerRises': WHATEVER THE INPUT: true; the input reads as it did. -/
def keplerRisesSpec : ChangeSpec := { name := "keplerRises", fn := fun _ => fun
  | [d1, d2, d3] => { results := [.lit (.bool true)], args := [d1, d2, d3] }
  | _ => none }
def keplerRisesRow : OpenClaim := { program := "ythadbpnapbmppaagreatdoor", sum := "ef5762f4042c5b4e5ca0be44aba9c5c55352d8cfc3d251a126e10923726e8f4f", func := "gyre/gyrelaw20.KeplerRises", spec := "keplerRises", inPlace := ["math/bits.Add64"], unfollowed := true, recurses := true, named := ["gyre/quot.least"], apart := false, laid := [("gyre/quot.least", laid_gyre_quot_least)] }
def KeplerRisesSaid : Prop := keplerRisesRow.holds Tryz.pinned (OpenSpec.ofChange keplerRisesSpec)

/-- ITS FALSE NEIGHBOUR: 'it returns false'. Refute it at one input. -/
def keplerRisesWrong : ChangeSpec := { name := "keplerRises", fn := fun _ => fun
  | [d1, d2, d3] => { results := [.lit (.bool false)], args := [d1, d2, d3] }
  | _ => none }
def KeplerRisesWrongFalsely : Prop := keplerRisesRow.holds Tryz.pinned (OpenSpec.ofChange keplerRisesWrong)

/-- 'gyrelaw21.OrbitTells': WHATEVER THE INPUT: true; the input reads as it did. -/
def orbitTellsSpec : ChangeSpec := { name := "orbitTells", fn := fun _ => fun
  | [d1, d2, d3, d4, d5] => { results := [.lit (.bool true)], args := [d1, d2, d3, d4, d5] }
  | _ => none }
def orbitTellsRow : OpenClaim := { program := "ythadbpnapbmppaagreatdoor", sum := "ef5762f4042c5b4e5ca0be44aba9c5c55352d8cfc3d251a126e10923726e8f4f", func := "gyre/gyrelaw21.OrbitTells", spec := "orbitTells", inPlace := ["math/bits.Add64"], unfollowed := true, recurses := true, named := ["gyre/orbit.bad", "gyre/quot.least"], apart := false, laid := [("gyre/quot.least", laid_gyre_quot_least), ("gyre/orbit.bad", laid_gyre_orbit_bad)] }
def OrbitTellsSaid : Prop := orbitTellsRow.holds Tryz.pinned (OpenSpec.ofChange orbitTellsSpec)

/-- ITS FALSE NEIGHBOUR: 'it returns false'. Refute it at one input. -/
def orbitTellsWrong : ChangeSpec := { name := "orbitTells", fn := fun _ => fun
  | [d1, d2, d3, d4, d5] => { results := [.lit (.bool false)], args := [d1, d2, d3, d4, d5] }
  | _ => none }
def OrbitTellsWrongFalsely : Prop := orbitTellsRow.holds Tryz.pinned (OpenSpec.ofChange orbitTellsWrong)

/-- 'gyrelaw21.OrbitEllipse': WHATEVER THE INPUT: true; the input reads as it did. -/
def orbitEllipseSpec : ChangeSpec := { name := "orbitEllipse", fn := fun _ => fun
  | [d1, d2, d3] => { results := [.lit (.bool true)], args := [d1, d2, d3] }
  | _ => none }
def orbitEllipseRow : OpenClaim := { program := "ythadbpnapbmppaagreatdoor", sum := "ef5762f4042c5b4e5ca0be44aba9c5c55352d8cfc3d251a126e10923726e8f4f", func := "gyre/gyrelaw21.OrbitEllipse", spec := "orbitEllipse", inPlace := ["math/bits.Add64"], unfollowed := true, recurses := true, named := ["gyre/orbit.bad", "gyre/quot.least"], apart := false, laid := [("gyre/quot.least", laid_gyre_quot_least), ("gyre/orbit.bad", laid_gyre_orbit_bad)] }
def OrbitEllipseSaid : Prop := orbitEllipseRow.holds Tryz.pinned (OpenSpec.ofChange orbitEllipseSpec)

/-- ITS FALSE NEIGHBOUR: 'it returns false'. Refute it at one input. -/
def orbitEllipseWrong : ChangeSpec := { name := "orbitEllipse", fn := fun _ => fun
  | [d1, d2, d3] => { results := [.lit (.bool false)], args := [d1, d2, d3] }
  | _ => none }
def OrbitEllipseWrongFalsely : Prop := orbitEllipseRow.holds Tryz.pinned (OpenSpec.ofChange orbitEllipseWrong)

/-- 'gyrelaw21.OrbitEnds': WHATEVER THE INPUT: true; the input reads as it did. -/
def orbitEndsSpec : ChangeSpec := { name := "orbitEnds", fn := fun _ => fun
  | [d1, d2, d3] => { results := [.lit (.bool true)], args := [d1, d2, d3] }
  | _ => none }
def orbitEndsRow : OpenClaim := { program := "ythadbpnapbmppaagreatdoor", sum := "ef5762f4042c5b4e5ca0be44aba9c5c55352d8cfc3d251a126e10923726e8f4f", func := "gyre/gyrelaw21.OrbitEnds", spec := "orbitEnds", inPlace := ["math/bits.Add64"], unfollowed := true, recurses := true, named := ["gyre/orbit.bad", "gyre/quot.least"], apart := false, laid := [("gyre/quot.least", laid_gyre_quot_least), ("gyre/orbit.bad", laid_gyre_orbit_bad)] }
def OrbitEndsSaid : Prop := orbitEndsRow.holds Tryz.pinned (OpenSpec.ofChange orbitEndsSpec)

/-- ITS FALSE NEIGHBOUR: 'it returns false'. Refute it at one input. -/
def orbitEndsWrong : ChangeSpec := { name := "orbitEnds", fn := fun _ => fun
  | [d1, d2, d3] => { results := [.lit (.bool false)], args := [d1, d2, d3] }
  | _ => none }
def OrbitEndsWrongFalsely : Prop := orbitEndsRow.holds Tryz.pinned (OpenSpec.ofChange orbitEndsWrong)

/-- 'gyrelaw21.OrbitWhole': WHATEVER THE INPUT: true; the input reads as it did. -/
def orbitWholeSpec : ChangeSpec := { name := "orbitWhole", fn := fun _ => fun
  | [d] => { results := [.lit (.bool true)], args := [d] }
  | _ => none }
def orbitWholeRow : OpenClaim := { program := "ythadbpnapbmppaagreatdoor", sum := "ef5762f4042c5b4e5ca0be44aba9c5c55352d8cfc3d251a126e10923726e8f4f", func := "gyre/gyrelaw21.OrbitWhole", spec := "orbitWhole", inPlace := ["math/bits.Add64"], unfollowed := true, recurses := true, named := ["gyre/quot.least", "gyre/orbit.bad"], apart := false, laid := [("gyre/quot.least", laid_gyre_quot_least), ("gyre/orbit.bad", laid_gyre_orbit_bad)] }
def OrbitWholeSaid : Prop := orbitWholeRow.holds Tryz.pinned (OpenSpec.ofChange orbitWholeSpec)

/-- ITS FALSE NEIGHBOUR: 'it returns false'. Refute it at one input. -/
def orbitWholeWrong : ChangeSpec := { name := "orbitWhole", fn := fun _ => fun
  | [d] => { results := [.lit (.bool false)], args := [d] }
  | _ => none }
def OrbitWholeWrongFalsely : Prop := orbitWholeRow.holds Tryz.pinned (OpenSpec.ofChange orbitWholeWrong)

/-- 'gyrelaw21.OrbitRow': WHATEVER THE INPUT: true; the input reads as it did. -/
def orbitRowSpec : ChangeSpec := { name := "orbitRow", fn := fun _ => fun
  | [d1, d2, d3] => { results := [.lit (.bool true)], args := [d1, d2, d3] }
  | _ => none }
def orbitRowRow : OpenClaim := { program := "ythadbpnapbmppaagreatdoor", sum := "ef5762f4042c5b4e5ca0be44aba9c5c55352d8cfc3d251a126e10923726e8f4f", func := "gyre/gyrelaw21.OrbitRow", spec := "orbitRow", inPlace := ["math/bits.Add64"], unfollowed := true, recurses := true, named := ["gyre/orbit.bad", "gyre/quot.least"], apart := false, laid := [("gyre/quot.least", laid_gyre_quot_least), ("gyre/orbit.bad", laid_gyre_orbit_bad)] }
def OrbitRowSaid : Prop := orbitRowRow.holds Tryz.pinned (OpenSpec.ofChange orbitRowSpec)

/-- ITS FALSE NEIGHBOUR: 'it returns false'. Refute it at one input. -/
def orbitRowWrong : ChangeSpec := { name := "orbitRow", fn := fun _ => fun
  | [d1, d2, d3] => { results := [.lit (.bool false)], args := [d1, d2, d3] }
  | _ => none }
def OrbitRowWrongFalsely : Prop := orbitRowRow.holds Tryz.pinned (OpenSpec.ofChange orbitRowWrong)

/- THE SECOND FORM. 'bulk': how many values and letters a reading holds, each counted each time it is reached (what is shared counts as often as it is met; a slice's spare places count too). A statement '..UptoSaid' is the law's where the arguments, and the package variables that the reading takes, are together of bulk at most 1048576: NARROWER than '..Said'. Prove '..Said' where nothing that the law and all that it calls make is longer than what came in: it says more and counts as full. Else prove '..UptoSaid'. A law counts once. -/
mutual
def uptoBulk {H : Type} : DataW H → Nat
  | .lit (.string bytes) => bytes.length + 1
  | .lit _ => 1
  | .nil => 1
  | .ptr d => uptoBulk d + 1
  | .slice elems spare => uptoBulkAll elems + uptoBulkAll spare + 1
  | .agg parts => uptoBulkAll parts + 1
  | .iface _ d => uptoBulk d + 1
  | .map entries => uptoBulkEntries entries + 1
  | .held _ => 1
def uptoBulkAll {H : Type} : List (DataW H) → Nat
  | [] => 0
  | d :: r => uptoBulk d + uptoBulkAll r
def uptoBulkEntries {H : Type} : List (Lit × DataW H) → Nat
  | [] => 0
  | x :: r => uptoBulkEntry x + uptoBulkEntries r
def uptoBulkEntry {H : Type} : Lit × DataW H → Nat
  | (.string bytes, d) => bytes.length + uptoBulk d + 1
  | (_, d) => uptoBulk d + 1
 end
def uptoSmall : (H : Type) → List (DataW H) → Bool := fun _ ds => decide (uptoBulkAll ds ≤ 1048576)
def OpenSpec.upto (s : _root_.Go.ChangeSpec) : _root_.Go.OpenSpec := { _root_.Go.OpenSpec.ofChange s with cond := some uptoSmall }

/-- 'gyrelaw20.KeplerTells', WHERE WHAT IT READS IS OF BULK AT MOST 1048576: true; the input reads as it did. -/
def keplerTellsUptoRow : OpenClaim := { program := "ythadbpnapbmppaagreatdoor", sum := "ef5762f4042c5b4e5ca0be44aba9c5c55352d8cfc3d251a126e10923726e8f4f", func := "gyre/gyrelaw20.KeplerTells", spec := "keplerTells", inPlace := ["math/bits.Add64"], unfollowed := true, recurses := true, named := ["gyre/quot.least"], apart := false, laid := [("gyre/quot.least", laid_gyre_quot_least)], narrowed := true }
def KeplerTellsUptoSaid : Prop := keplerTellsUptoRow.holds Tryz.pinned (OpenSpec.upto keplerTellsSpec)

/-- 'gyrelaw20.KeplerHolds', WHERE WHAT IT READS IS OF BULK AT MOST 1048576: true; the input reads as it did. -/
def keplerHoldsUptoRow : OpenClaim := { program := "ythadbpnapbmppaagreatdoor", sum := "ef5762f4042c5b4e5ca0be44aba9c5c55352d8cfc3d251a126e10923726e8f4f", func := "gyre/gyrelaw20.KeplerHolds", spec := "keplerHolds", inPlace := ["math/bits.Add64"], unfollowed := true, recurses := true, named := ["gyre/quot.least"], apart := false, laid := [("gyre/quot.least", laid_gyre_quot_least)], narrowed := true }
def KeplerHoldsUptoSaid : Prop := keplerHoldsUptoRow.holds Tryz.pinned (OpenSpec.upto keplerHoldsSpec)

/-- 'gyrelaw20.KeplerRises', WHERE WHAT IT READS IS OF BULK AT MOST 1048576: true; the input reads as it did. -/
def keplerRisesUptoRow : OpenClaim := { program := "ythadbpnapbmppaagreatdoor", sum := "ef5762f4042c5b4e5ca0be44aba9c5c55352d8cfc3d251a126e10923726e8f4f", func := "gyre/gyrelaw20.KeplerRises", spec := "keplerRises", inPlace := ["math/bits.Add64"], unfollowed := true, recurses := true, named := ["gyre/quot.least"], apart := false, laid := [("gyre/quot.least", laid_gyre_quot_least)], narrowed := true }
def KeplerRisesUptoSaid : Prop := keplerRisesUptoRow.holds Tryz.pinned (OpenSpec.upto keplerRisesSpec)

/-- 'gyrelaw21.OrbitTells', WHERE WHAT IT READS IS OF BULK AT MOST 1048576: true; the input reads as it did. -/
def orbitTellsUptoRow : OpenClaim := { program := "ythadbpnapbmppaagreatdoor", sum := "ef5762f4042c5b4e5ca0be44aba9c5c55352d8cfc3d251a126e10923726e8f4f", func := "gyre/gyrelaw21.OrbitTells", spec := "orbitTells", inPlace := ["math/bits.Add64"], unfollowed := true, recurses := true, named := ["gyre/orbit.bad", "gyre/quot.least"], apart := false, laid := [("gyre/quot.least", laid_gyre_quot_least), ("gyre/orbit.bad", laid_gyre_orbit_bad)], narrowed := true }
def OrbitTellsUptoSaid : Prop := orbitTellsUptoRow.holds Tryz.pinned (OpenSpec.upto orbitTellsSpec)

/-- 'gyrelaw21.OrbitEllipse', WHERE WHAT IT READS IS OF BULK AT MOST 1048576: true; the input reads as it did. -/
def orbitEllipseUptoRow : OpenClaim := { program := "ythadbpnapbmppaagreatdoor", sum := "ef5762f4042c5b4e5ca0be44aba9c5c55352d8cfc3d251a126e10923726e8f4f", func := "gyre/gyrelaw21.OrbitEllipse", spec := "orbitEllipse", inPlace := ["math/bits.Add64"], unfollowed := true, recurses := true, named := ["gyre/orbit.bad", "gyre/quot.least"], apart := false, laid := [("gyre/quot.least", laid_gyre_quot_least), ("gyre/orbit.bad", laid_gyre_orbit_bad)], narrowed := true }
def OrbitEllipseUptoSaid : Prop := orbitEllipseUptoRow.holds Tryz.pinned (OpenSpec.upto orbitEllipseSpec)

/-- 'gyrelaw21.OrbitEnds', WHERE WHAT IT READS IS OF BULK AT MOST 1048576: true; the input reads as it did. -/
def orbitEndsUptoRow : OpenClaim := { program := "ythadbpnapbmppaagreatdoor", sum := "ef5762f4042c5b4e5ca0be44aba9c5c55352d8cfc3d251a126e10923726e8f4f", func := "gyre/gyrelaw21.OrbitEnds", spec := "orbitEnds", inPlace := ["math/bits.Add64"], unfollowed := true, recurses := true, named := ["gyre/orbit.bad", "gyre/quot.least"], apart := false, laid := [("gyre/quot.least", laid_gyre_quot_least), ("gyre/orbit.bad", laid_gyre_orbit_bad)], narrowed := true }
def OrbitEndsUptoSaid : Prop := orbitEndsUptoRow.holds Tryz.pinned (OpenSpec.upto orbitEndsSpec)

/-- 'gyrelaw21.OrbitWhole', WHERE WHAT IT READS IS OF BULK AT MOST 1048576: true; the input reads as it did. -/
def orbitWholeUptoRow : OpenClaim := { program := "ythadbpnapbmppaagreatdoor", sum := "ef5762f4042c5b4e5ca0be44aba9c5c55352d8cfc3d251a126e10923726e8f4f", func := "gyre/gyrelaw21.OrbitWhole", spec := "orbitWhole", inPlace := ["math/bits.Add64"], unfollowed := true, recurses := true, named := ["gyre/quot.least", "gyre/orbit.bad"], apart := false, laid := [("gyre/quot.least", laid_gyre_quot_least), ("gyre/orbit.bad", laid_gyre_orbit_bad)], narrowed := true }
def OrbitWholeUptoSaid : Prop := orbitWholeUptoRow.holds Tryz.pinned (OpenSpec.upto orbitWholeSpec)

/-- 'gyrelaw21.OrbitRow', WHERE WHAT IT READS IS OF BULK AT MOST 1048576: true; the input reads as it did. -/
def orbitRowUptoRow : OpenClaim := { program := "ythadbpnapbmppaagreatdoor", sum := "ef5762f4042c5b4e5ca0be44aba9c5c55352d8cfc3d251a126e10923726e8f4f", func := "gyre/gyrelaw21.OrbitRow", spec := "orbitRow", inPlace := ["math/bits.Add64"], unfollowed := true, recurses := true, named := ["gyre/orbit.bad", "gyre/quot.least"], apart := false, laid := [("gyre/quot.least", laid_gyre_quot_least), ("gyre/orbit.bad", laid_gyre_orbit_bad)], narrowed := true }
def OrbitRowUptoSaid : Prop := orbitRowUptoRow.holds Tryz.pinned (OpenSpec.upto orbitRowSpec)

end Rows
end Go.Proofs.YthadbpnapbmppaaGreatDoor
