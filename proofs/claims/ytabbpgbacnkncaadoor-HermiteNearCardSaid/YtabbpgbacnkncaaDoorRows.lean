/-
  NARROWER THAN 'FOR EVERY INPUT', by the rows' own cells (each row's printed sentence says how): HermiteTells: laid · HermiteNear: laid · HermiteEnds: laid · HermiteStraight: laid · HermiteStates: laid.
  DERIVED. THE GIVEN ROWS OF THIS SEAT. 5 by the template 'for every input the law returns true; each argument reads behind the call as it read before'; 0 by the template 'total and deterministic' (their statements: YtabbpgbacnkncaaDoorTotals.lean).
  GIVEN WITH THE SEED: the statements are not yours to turn. If you find one false, say at which input.
  Laid BY PROGRAM, IN A SANDBOX (cutbox-rows.mjs): the forced cells as the released guide's own fill.sh prints them over the translation d659cbb9a6e009a5… (all of the seat's roots in one cut). By AI agents, Wed Nov 11 2026. No macro, syntax, notation, axiom, sorry.
-/
import Derived.Test.YtabbpgbacnkncaaDoorChecked
import GoSem.Claim
import GoSem.ClaimJoined
import GoSem.ClaimMapViews
import Derived.JoinedTies
import Derived.KernelRfl
namespace Go.Proofs.YtabbpgbacnkncaaDoor
/- THE CELL 'sum', in the pinned program and in every row, IS THE sha256 OF THE DUMP (.gsa) THAT YtabbpgbacnkncaaDoorProg.lean LOADS. Nothing in Lean hashes anything: it is a label: what it is worth is what the hold of that sum in a sandbox is worth. -/
noncomputable def Tryd.pinned : Pinned := { name := "ytabbpgbacnkncaadoor", sum := "d659cbb9a6e009a5a7ce1994b09116b645d00c5a3de951ae3331c0645c50634e", checked := Tryd.checked }
namespace Rows
def none {H : Type} : Left H := { results := [], args := [] }

/- WHAT THE LISTED PACKAGE-LEVEL VARIABLES READ AS WHEN THE CALL BEGINS. Each datum BY PROGRAM (the guide's laid-datum.mjs) off the statement by which the dump's own 'gosem.cut.vars' lays the variable. In a bare row this is a premise. The card (YtabbpgbacnkncaaDoorCards.lean) ties it to the program's text. -/
def laid_gyre_quot_least {H : Type} : DataW H := .agg [.lit (.int .u64 0), .lit (.int .u64 0), .lit (.int .u64 0), .lit (.int .u64 9223372036854775808)]

/-- 'gyrelaw28.HermiteTells': WHATEVER THE INPUT: true; the input reads as it did. -/
def hermiteTellsSpec : ChangeSpec := { name := "hermiteTells", fn := fun _ => fun
  | [d1, d2, d3, d4, d5, d6, d7, d8, d9] => { results := [.lit (.bool true)], args := [d1, d2, d3, d4, d5, d6, d7, d8, d9] }
  | _ => none }
def hermiteTellsRow : OpenClaim := { program := "ytabbpgbacnkncaadoor", sum := "d659cbb9a6e009a5a7ce1994b09116b645d00c5a3de951ae3331c0645c50634e", func := "gyre/gyrelaw28.HermiteTells", spec := "hermiteTells", inPlace := ["math/bits.Add64"], unfollowed := true, recurses := true, named := ["gyre/quot.least"], apart := false, laid := [("gyre/quot.least", laid_gyre_quot_least)] }
def HermiteTellsSaid : Prop := hermiteTellsRow.holds Tryd.pinned (OpenSpec.ofChange hermiteTellsSpec)

/-- ITS FALSE NEIGHBOUR: 'it returns false'. Refute it at one input. -/
def hermiteTellsWrong : ChangeSpec := { name := "hermiteTells", fn := fun _ => fun
  | [d1, d2, d3, d4, d5, d6, d7, d8, d9] => { results := [.lit (.bool false)], args := [d1, d2, d3, d4, d5, d6, d7, d8, d9] }
  | _ => none }
def HermiteTellsWrongFalsely : Prop := hermiteTellsRow.holds Tryd.pinned (OpenSpec.ofChange hermiteTellsWrong)

/-- 'gyrelaw28.HermiteNear': WHATEVER THE INPUT: true; the input reads as it did. -/
def hermiteNearSpec : ChangeSpec := { name := "hermiteNear", fn := fun _ => fun
  | [d1, d2, d3, d4, d5, d6] => { results := [.lit (.bool true)], args := [d1, d2, d3, d4, d5, d6] }
  | _ => none }
def hermiteNearRow : OpenClaim := { program := "ytabbpgbacnkncaadoor", sum := "d659cbb9a6e009a5a7ce1994b09116b645d00c5a3de951ae3331c0645c50634e", func := "gyre/gyrelaw28.HermiteNear", spec := "hermiteNear", inPlace := ["math/bits.Add64"], unfollowed := true, recurses := true, named := ["gyre/quot.least"], apart := false, laid := [("gyre/quot.least", laid_gyre_quot_least)] }
def HermiteNearSaid : Prop := hermiteNearRow.holds Tryd.pinned (OpenSpec.ofChange hermiteNearSpec)

/-- ITS FALSE NEIGHBOUR: 'it returns false'. Refute it at one input. -/
def hermiteNearWrong : ChangeSpec := { name := "hermiteNear", fn := fun _ => fun
  | [d1, d2, d3, d4, d5, d6] => { results := [.lit (.bool false)], args := [d1, d2, d3, d4, d5, d6] }
  | _ => none }
def HermiteNearWrongFalsely : Prop := hermiteNearRow.holds Tryd.pinned (OpenSpec.ofChange hermiteNearWrong)

/-- 'gyrelaw28.HermiteEnds': WHATEVER THE INPUT: true; the input reads as it did. -/
def hermiteEndsSpec : ChangeSpec := { name := "hermiteEnds", fn := fun _ => fun
  | [d1, d2, d3, d4, d5, d6] => { results := [.lit (.bool true)], args := [d1, d2, d3, d4, d5, d6] }
  | _ => none }
def hermiteEndsRow : OpenClaim := { program := "ytabbpgbacnkncaadoor", sum := "d659cbb9a6e009a5a7ce1994b09116b645d00c5a3de951ae3331c0645c50634e", func := "gyre/gyrelaw28.HermiteEnds", spec := "hermiteEnds", inPlace := ["math/bits.Add64"], unfollowed := true, recurses := true, named := ["gyre/quot.least"], apart := false, laid := [("gyre/quot.least", laid_gyre_quot_least)] }
def HermiteEndsSaid : Prop := hermiteEndsRow.holds Tryd.pinned (OpenSpec.ofChange hermiteEndsSpec)

/-- ITS FALSE NEIGHBOUR: 'it returns false'. Refute it at one input. -/
def hermiteEndsWrong : ChangeSpec := { name := "hermiteEnds", fn := fun _ => fun
  | [d1, d2, d3, d4, d5, d6] => { results := [.lit (.bool false)], args := [d1, d2, d3, d4, d5, d6] }
  | _ => none }
def HermiteEndsWrongFalsely : Prop := hermiteEndsRow.holds Tryd.pinned (OpenSpec.ofChange hermiteEndsWrong)

/-- 'gyrelaw28.HermiteStraight': WHATEVER THE INPUT: true; the input reads as it did. -/
def hermiteStraightSpec : ChangeSpec := { name := "hermiteStraight", fn := fun _ => fun
  | [d1, d2, d3, d4, d5, d6, d7] => { results := [.lit (.bool true)], args := [d1, d2, d3, d4, d5, d6, d7] }
  | _ => none }
def hermiteStraightRow : OpenClaim := { program := "ytabbpgbacnkncaadoor", sum := "d659cbb9a6e009a5a7ce1994b09116b645d00c5a3de951ae3331c0645c50634e", func := "gyre/gyrelaw28.HermiteStraight", spec := "hermiteStraight", inPlace := ["math/bits.Add64"], unfollowed := true, recurses := true, named := ["gyre/quot.least"], apart := false, laid := [("gyre/quot.least", laid_gyre_quot_least)] }
def HermiteStraightSaid : Prop := hermiteStraightRow.holds Tryd.pinned (OpenSpec.ofChange hermiteStraightSpec)

/-- ITS FALSE NEIGHBOUR: 'it returns false'. Refute it at one input. -/
def hermiteStraightWrong : ChangeSpec := { name := "hermiteStraight", fn := fun _ => fun
  | [d1, d2, d3, d4, d5, d6, d7] => { results := [.lit (.bool false)], args := [d1, d2, d3, d4, d5, d6, d7] }
  | _ => none }
def HermiteStraightWrongFalsely : Prop := hermiteStraightRow.holds Tryd.pinned (OpenSpec.ofChange hermiteStraightWrong)

/-- 'gyrelaw28.HermiteStates': WHATEVER THE INPUT: true; the input reads as it did. -/
def hermiteStatesSpec : ChangeSpec := { name := "hermiteStates", fn := fun _ => fun
  | [d1, d2, d3] => { results := [.lit (.bool true)], args := [d1, d2, d3] }
  | _ => none }
def hermiteStatesRow : OpenClaim := { program := "ytabbpgbacnkncaadoor", sum := "d659cbb9a6e009a5a7ce1994b09116b645d00c5a3de951ae3331c0645c50634e", func := "gyre/gyrelaw28.HermiteStates", spec := "hermiteStates", inPlace := ["math/bits.Add64"], unfollowed := true, recurses := true, named := ["gyre/quot.least"], apart := false, laid := [("gyre/quot.least", laid_gyre_quot_least)] }
def HermiteStatesSaid : Prop := hermiteStatesRow.holds Tryd.pinned (OpenSpec.ofChange hermiteStatesSpec)

/-- ITS FALSE NEIGHBOUR: 'it returns false'. Refute it at one input. -/
def hermiteStatesWrong : ChangeSpec := { name := "hermiteStates", fn := fun _ => fun
  | [d1, d2, d3] => { results := [.lit (.bool false)], args := [d1, d2, d3] }
  | _ => none }
def HermiteStatesWrongFalsely : Prop := hermiteStatesRow.holds Tryd.pinned (OpenSpec.ofChange hermiteStatesWrong)

/- THE SECOND FORM. 'bulk': how many values and letters a reading holds, each counted each time it is reached (what is shared counts as often as it is met; a slice's spare places count too). A statement '..UptoSaid' is the law's where the arguments, and the package variables that the reading takes, are together of bulk at most 1048576: NARROWER than '..Said'. Prove '..Said' where nothing that the law and all that it calls make is longer than what came in: it says more and counts as full. Else prove '..UptoSaid'. A law counts once. -/
mutual
def uptoBulk {H : Type} : DataW H → Nat
  | .lit (.string bytes) => bytes.length + 1
  | .lit _ => 1
  | .nil => 1
  | .ptr d => uptoBulk d + 1
  | .slice elems spare => uptoBulkAll elems + uptoBulkAll spare + 1
  | .agg parts => uptoBulkAll parts + 1
  | .iface _ d => uptoBulk d + 1
  | .map entries => uptoBulkEntries entries + 1
  | .held _ => 1
def uptoBulkAll {H : Type} : List (DataW H) → Nat
  | [] => 0
  | d :: r => uptoBulk d + uptoBulkAll r
def uptoBulkEntries {H : Type} : List (Lit × DataW H) → Nat
  | [] => 0
  | x :: r => uptoBulkEntry x + uptoBulkEntries r
def uptoBulkEntry {H : Type} : Lit × DataW H → Nat
  | (.string bytes, d) => bytes.length + uptoBulk d + 1
  | (_, d) => uptoBulk d + 1
 end
def uptoSmall : (H : Type) → List (DataW H) → Bool := fun _ ds => decide (uptoBulkAll ds ≤ 1048576)
def OpenSpec.upto (s : _root_.Go.ChangeSpec) : _root_.Go.OpenSpec := { _root_.Go.OpenSpec.ofChange s with cond := some uptoSmall }

/-- 'gyrelaw28.HermiteTells', WHERE WHAT IT READS IS OF BULK AT MOST 1048576: true; the input reads as it did. -/
def hermiteTellsUptoRow : OpenClaim := { program := "ytabbpgbacnkncaadoor", sum := "d659cbb9a6e009a5a7ce1994b09116b645d00c5a3de951ae3331c0645c50634e", func := "gyre/gyrelaw28.HermiteTells", spec := "hermiteTells", inPlace := ["math/bits.Add64"], unfollowed := true, recurses := true, named := ["gyre/quot.least"], apart := false, laid := [("gyre/quot.least", laid_gyre_quot_least)], narrowed := true }
def HermiteTellsUptoSaid : Prop := hermiteTellsUptoRow.holds Tryd.pinned (OpenSpec.upto hermiteTellsSpec)

/-- 'gyrelaw28.HermiteNear', WHERE WHAT IT READS IS OF BULK AT MOST 1048576: true; the input reads as it did. -/
def hermiteNearUptoRow : OpenClaim := { program := "ytabbpgbacnkncaadoor", sum := "d659cbb9a6e009a5a7ce1994b09116b645d00c5a3de951ae3331c0645c50634e", func := "gyre/gyrelaw28.HermiteNear", spec := "hermiteNear", inPlace := ["math/bits.Add64"], unfollowed := true, recurses := true, named := ["gyre/quot.least"], apart := false, laid := [("gyre/quot.least", laid_gyre_quot_least)], narrowed := true }
def HermiteNearUptoSaid : Prop := hermiteNearUptoRow.holds Tryd.pinned (OpenSpec.upto hermiteNearSpec)

/-- 'gyrelaw28.HermiteEnds', WHERE WHAT IT READS IS OF BULK AT MOST 1048576: true; the input reads as it did. -/
def hermiteEndsUptoRow : OpenClaim := { program := "ytabbpgbacnkncaadoor", sum := "d659cbb9a6e009a5a7ce1994b09116b645d00c5a3de951ae3331c0645c50634e", func := "gyre/gyrelaw28.HermiteEnds", spec := "hermiteEnds", inPlace := ["math/bits.Add64"], unfollowed := true, recurses := true, named := ["gyre/quot.least"], apart := false, laid := [("gyre/quot.least", laid_gyre_quot_least)], narrowed := true }
def HermiteEndsUptoSaid : Prop := hermiteEndsUptoRow.holds Tryd.pinned (OpenSpec.upto hermiteEndsSpec)

/-- 'gyrelaw28.HermiteStraight', WHERE WHAT IT READS IS OF BULK AT MOST 1048576: true; the input reads as it did. -/
def hermiteStraightUptoRow : OpenClaim := { program := "ytabbpgbacnkncaadoor", sum := "d659cbb9a6e009a5a7ce1994b09116b645d00c5a3de951ae3331c0645c50634e", func := "gyre/gyrelaw28.HermiteStraight", spec := "hermiteStraight", inPlace := ["math/bits.Add64"], unfollowed := true, recurses := true, named := ["gyre/quot.least"], apart := false, laid := [("gyre/quot.least", laid_gyre_quot_least)], narrowed := true }
def HermiteStraightUptoSaid : Prop := hermiteStraightUptoRow.holds Tryd.pinned (OpenSpec.upto hermiteStraightSpec)

/-- 'gyrelaw28.HermiteStates', WHERE WHAT IT READS IS OF BULK AT MOST 1048576: true; the input reads as it did. -/
def hermiteStatesUptoRow : OpenClaim := { program := "ytabbpgbacnkncaadoor", sum := "d659cbb9a6e009a5a7ce1994b09116b645d00c5a3de951ae3331c0645c50634e", func := "gyre/gyrelaw28.HermiteStates", spec := "hermiteStates", inPlace := ["math/bits.Add64"], unfollowed := true, recurses := true, named := ["gyre/quot.least"], apart := false, laid := [("gyre/quot.least", laid_gyre_quot_least)], narrowed := true }
def HermiteStatesUptoSaid : Prop := hermiteStatesUptoRow.holds Tryd.pinned (OpenSpec.upto hermiteStatesSpec)

end Rows
end Go.Proofs.YtabbpgbacnkncaaDoor
