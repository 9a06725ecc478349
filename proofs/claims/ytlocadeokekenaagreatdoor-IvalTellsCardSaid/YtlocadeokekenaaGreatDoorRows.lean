/-
  NARROWER THAN 'FOR EVERY INPUT', by the rows' own cells (each row's printed sentence says how): IvalTells: laid · InvTells: laid.
  DERIVED. THE GIVEN ROWS OF THIS SEAT. 2 by the template 'for every input the law returns true; each argument reads behind the call as it read before'; 0 by the template 'total and deterministic' (their statements: YtlocadeokekenaaGreatDoorTotals.lean).
  GIVEN WITH THE SEED: the statements are not yours to turn. If you find one false, say at which input.
  Laid BY PROGRAM, IN A SANDBOX (cutbox-rows.mjs): the forced cells as the released guide's own fill.sh prints them over the translation fc2b5cc92143b03e… (all of the seat's roots in one cut). By AI agents, Wed Nov 11 2026. No macro, syntax, notation, axiom, sorry.
-/
import Derived.Test.YtlocadeokekenaaGreatDoorChecked
import GoSem.Claim
import GoSem.ClaimJoined
import GoSem.ClaimMapViews
import Derived.JoinedTies
import Derived.KernelRfl
namespace Go.Proofs.YtlocadeokekenaaGreatDoor
/- THE CELL 'sum', in the pinned program and in every row, IS THE sha256 OF THE DUMP (.gsa) THAT YtlocadeokekenaaGreatDoorProg.lean LOADS. Nothing in Lean hashes anything: it is a label: what it is worth is what the hold of that sum in a sandbox is worth. -/
noncomputable def Tryz.pinned : Pinned := { name := "ytlocadeokekenaagreatdoor", sum := "fc2b5cc92143b03e6acf43ecdfbb7f16d8b31afffddc7ef59cc63de492cfa83b", checked := Tryz.checked }
namespace Rows
def none {H : Type} : Left H := { results := [], args := [] }

/- WHAT THE LISTED PACKAGE-LEVEL VARIABLES READ AS WHEN THE CALL BEGINS. Each datum BY PROGRAM (the guide's laid-datum.mjs) off the statement by which the dump's own 'gosem.cut.vars' lays the variable. In a bare row this is a premise. The card (YtlocadeokekenaaGreatDoorCards.lean) ties it to the program's text. -/
def laid_gyre_quot_least {H : Type} : DataW H := .agg [.lit (.int .u64 0), .lit (.int .u64 0), .lit (.int .u64 0), .lit (.int .u64 9223372036854775808)]

/-- 'gyrelaw05.IvalTells': WHATEVER THE INPUT: true; the input reads as it did. -/
def ivalTellsSpec : ChangeSpec := { name := "ivalTells", fn := fun _ => fun
  | [d1, d2, d3, d4, d5] => { results := [.lit (.bool true)], args := [d1, d2, d3, d4, d5] }
  | _ => none }
def ivalTellsRow : OpenClaim := { program := "ytlocadeokekenaagreatdoor", sum := "fc2b5cc92143b03e6acf43ecdfbb7f16d8b31afffddc7ef59cc63de492cfa83b", func := "gyre/gyrelaw05.IvalTells", spec := "ivalTells", inPlace := ["math/bits.Add64"], unfollowed := true, recurses := true, named := ["gyre/quot.least"], apart := false, laid := [("gyre/quot.least", laid_gyre_quot_least)] }
def IvalTellsSaid : Prop := ivalTellsRow.holds Tryz.pinned (OpenSpec.ofChange ivalTellsSpec)

/-- ITS FALSE NEIGHBOUR: 'it returns false'. Refute it at one input. -/
def ivalTellsWrong : ChangeSpec := { name := "ivalTells", fn := fun _ => fun
  | [d1, d2, d3, d4, d5] => { results := [.lit (.bool false)], args := [d1, d2, d3, d4, d5] }
  | _ => none }
def IvalTellsWrongFalsely : Prop := ivalTellsRow.holds Tryz.pinned (OpenSpec.ofChange ivalTellsWrong)

/-- 'gyrelaw06.InvTells': WHATEVER THE INPUT: true; the input reads as it did. -/
def invTellsSpec : ChangeSpec := { name := "invTells", fn := fun _ => fun
  | [d1, d2] => { results := [.lit (.bool true)], args := [d1, d2] }
  | _ => none }
def invTellsRow : OpenClaim := { program := "ytlocadeokekenaagreatdoor", sum := "fc2b5cc92143b03e6acf43ecdfbb7f16d8b31afffddc7ef59cc63de492cfa83b", func := "gyre/gyrelaw06.InvTells", spec := "invTells", inPlace := ["math/bits.Add64"], unfollowed := true, recurses := true, named := ["gyre/quot.least"], apart := false, laid := [("gyre/quot.least", laid_gyre_quot_least)] }
def InvTellsSaid : Prop := invTellsRow.holds Tryz.pinned (OpenSpec.ofChange invTellsSpec)

/-- ITS FALSE NEIGHBOUR: 'it returns false'. Refute it at one input. -/
def invTellsWrong : ChangeSpec := { name := "invTells", fn := fun _ => fun
  | [d1, d2] => { results := [.lit (.bool false)], args := [d1, d2] }
  | _ => none }
def InvTellsWrongFalsely : Prop := invTellsRow.holds Tryz.pinned (OpenSpec.ofChange invTellsWrong)

/- THE SECOND FORM. 'bulk': how many values and letters a reading holds, each counted each time it is reached (what is shared counts as often as it is met; a slice's spare places count too). A statement '..UptoSaid' is the law's where the arguments, and the package variables that the reading takes, are together of bulk at most 1048576: NARROWER than '..Said'. Prove '..Said' where nothing that the law and all that it calls make is longer than what came in: it says more and counts as full. Else prove '..UptoSaid'. A law counts once. -/
mutual
def uptoBulk {H : Type} : DataW H → Nat
  | .lit (.string bytes) => bytes.length + 1
  | .lit _ => 1
  | .nil => 1
  | .ptr d => uptoBulk d + 1
  | .slice elems spare => uptoBulkAll elems + uptoBulkAll spare + 1
  | .agg parts => uptoBulkAll parts + 1
  | .iface _ d => uptoBulk d + 1
  | .map entries => uptoBulkEntries entries + 1
  | .held _ => 1
def uptoBulkAll {H : Type} : List (DataW H) → Nat
  | [] => 0
  | d :: r => uptoBulk d + uptoBulkAll r
def uptoBulkEntries {H : Type} : List (Lit × DataW H) → Nat
  | [] => 0
  | x :: r => uptoBulkEntry x + uptoBulkEntries r
def uptoBulkEntry {H : Type} : Lit × DataW H → Nat
  | (.string bytes, d) => bytes.length + uptoBulk d + 1
  | (_, d) => uptoBulk d + 1
 end
def uptoSmall : (H : Type) → List (DataW H) → Bool := fun _ ds => decide (uptoBulkAll ds ≤ 1048576)
def OpenSpec.upto (s : _root_.Go.ChangeSpec) : _root_.Go.OpenSpec := { _root_.Go.OpenSpec.ofChange s with cond := some uptoSmall }

/-- 'gyrelaw05.IvalTells', WHERE WHAT IT READS IS OF BULK AT MOST 1048576: true; the input reads as it did. -/
def ivalTellsUptoRow : OpenClaim := { program := "ytlocadeokekenaagreatdoor", sum := "fc2b5cc92143b03e6acf43ecdfbb7f16d8b31afffddc7ef59cc63de492cfa83b", func := "gyre/gyrelaw05.IvalTells", spec := "ivalTells", inPlace := ["math/bits.Add64"], unfollowed := true, recurses := true, named := ["gyre/quot.least"], apart := false, laid := [("gyre/quot.least", laid_gyre_quot_least)], narrowed := true }
def IvalTellsUptoSaid : Prop := ivalTellsUptoRow.holds Tryz.pinned (OpenSpec.upto ivalTellsSpec)

/-- 'gyrelaw06.InvTells', WHERE WHAT IT READS IS OF BULK AT MOST 1048576: true; the input reads as it did. -/
def invTellsUptoRow : OpenClaim := { program := "ytlocadeokekenaagreatdoor", sum := "fc2b5cc92143b03e6acf43ecdfbb7f16d8b31afffddc7ef59cc63de492cfa83b", func := "gyre/gyrelaw06.InvTells", spec := "invTells", inPlace := ["math/bits.Add64"], unfollowed := true, recurses := true, named := ["gyre/quot.least"], apart := false, laid := [("gyre/quot.least", laid_gyre_quot_least)], narrowed := true }
def InvTellsUptoSaid : Prop := invTellsUptoRow.holds Tryz.pinned (OpenSpec.upto invTellsSpec)

end Rows
end Go.Proofs.YtlocadeokekenaaGreatDoor
