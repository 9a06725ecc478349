/-
  NARROWER THAN 'FOR EVERY INPUT', by the rows' own cells (each row's printed sentence says how): HermiteTells: laid · HermiteStates: laid.
  DERIVED. THE GIVEN ROWS OF THIS SEAT. 2 by the template 'for every input the law returns true; each argument reads behind the call as it read before'; 0 by the template 'total and deterministic' (their statements: YtdnpnccieabmiaaDoorTotals.lean).
  GIVEN WITH THE SEED: the statements are not yours to turn. If you find one false, say at which input.
  Laid BY PROGRAM, IN A SANDBOX (cutbox-rows.mjs): the forced cells as the released guide's own fill.sh prints them over the translation c2aa0b426918038e… (all of the seat's roots in one cut). By AI agents, Wed Nov 11 2026. No macro, syntax, notation, axiom, sorry.
-/
import Derived.Test.YtdnpnccieabmiaaDoorChecked
import GoSem.Claim
import GoSem.ClaimJoined
import GoSem.ClaimMapViews
import Derived.JoinedTies
import Derived.KernelRfl
namespace Go.Proofs.YtdnpnccieabmiaaDoor
/- THE CELL 'sum', in the pinned program and in every row, IS THE sha256 OF THE DUMP (.gsa) THAT YtdnpnccieabmiaaDoorProg.lean LOADS. Nothing in Lean hashes anything: it is a label: what it is worth is what the hold of that sum in a sandbox is worth. -/
noncomputable def Tryd.pinned : Pinned := { name := "ytdnpnccieabmiaadoor", sum := "c2aa0b426918038e03a42f5597fce25a78a79e52501c1437d80b45809238bcb6", checked := Tryd.checked }
namespace Rows
def none {H : Type} : Left H := { results := [], args := [] }

/- WHAT THE LISTED PACKAGE-LEVEL VARIABLES READ AS WHEN THE CALL BEGINS. Each datum BY PROGRAM (the guide's laid-datum.mjs) off the statement by which the dump's own 'gosem.cut.vars' lays the variable. In a bare row this is a premise. The card (YtdnpnccieabmiaaDoorCards.lean) ties it to the program's text. -/
def laid_gyre_quot_least {H : Type} : DataW H := .agg [.lit (.int .u64 0), .lit (.int .u64 0), .lit (.int .u64 0), .lit (.int .u64 9223372036854775808)]

/-- 'gyrelaw28.HermiteTells': WHATEVER THE INPUT: true; the input reads as it did. -/
def hermiteTellsSpec : ChangeSpec := { name := "hermiteTells", fn := fun _ => fun
  | [d1, d2, d3, d4, d5, d6, d7, d8, d9] => { results := [.lit (.bool true)], args := [d1, d2, d3, d4, d5, d6, d7, d8, d9] }
  | _ => none }
def hermiteTellsRow : OpenClaim := { program := "ytdnpnccieabmiaadoor", sum := "c2aa0b426918038e03a42f5597fce25a78a79e52501c1437d80b45809238bcb6", func := "gyre/gyrelaw28.HermiteTells", spec := "hermiteTells", inPlace := ["math/bits.Add64"], unfollowed := true, recurses := true, named := ["gyre/quot.least"], apart := false, laid := [("gyre/quot.least", laid_gyre_quot_least)] }
def HermiteTellsSaid : Prop := hermiteTellsRow.holds Tryd.pinned (OpenSpec.ofChange hermiteTellsSpec)

/-- ITS FALSE NEIGHBOUR: 'it returns false'. Refute it at one input. -/
def hermiteTellsWrong : ChangeSpec := { name := "hermiteTells", fn := fun _ => fun
  | [d1, d2, d3, d4, d5, d6, d7, d8, d9] => { results := [.lit (.bool false)], args := [d1, d2, d3, d4, d5, d6, d7, d8, d9] }
  | _ => none }
def HermiteTellsWrongFalsely : Prop := hermiteTellsRow.holds Tryd.pinned (OpenSpec.ofChange hermiteTellsWrong)

/-- 'gyrelaw28.HermiteStates': WHATEVER THE INPUT: true; the input reads as it did. -/
def hermiteStatesSpec : ChangeSpec := { name := "hermiteStates", fn := fun _ => fun
  | [d1, d2, d3] => { results := [.lit (.bool true)], args := [d1, d2, d3] }
  | _ => none }
def hermiteStatesRow : OpenClaim := { program := "ytdnpnccieabmiaadoor", sum := "c2aa0b426918038e03a42f5597fce25a78a79e52501c1437d80b45809238bcb6", func := "gyre/gyrelaw28.HermiteStates", spec := "hermiteStates", inPlace := ["math/bits.Add64"], unfollowed := true, recurses := true, named := ["gyre/quot.least"], apart := false, laid := [("gyre/quot.least", laid_gyre_quot_least)] }
def HermiteStatesSaid : Prop := hermiteStatesRow.holds Tryd.pinned (OpenSpec.ofChange hermiteStatesSpec)

/-- ITS FALSE NEIGHBOUR: 'it returns false'. Refute it at one input. -/
def hermiteStatesWrong : ChangeSpec := { name := "hermiteStates", fn := fun _ => fun
  | [d1, d2, d3] => { results := [.lit (.bool false)], args := [d1, d2, d3] }
  | _ => none }
def HermiteStatesWrongFalsely : Prop := hermiteStatesRow.holds Tryd.pinned (OpenSpec.ofChange hermiteStatesWrong)

/- THE SECOND FORM. 'bulk': how many values and letters a reading holds, each counted each time it is reached (what is shared counts as often as it is met; a slice's spare places count too). A statement '..UptoSaid' is the law's where the arguments, and the package variables that the reading takes, are together of bulk at most 1048576: NARROWER than '..Said'. Prove '..Said' where nothing that the law and all that it calls make is longer than what came in: it says more and counts as full. Else prove '..UptoSaid'. A law counts once. -/
mutual
def uptoBulk {H : Type} : DataW H → Nat
  | .lit (.string bytes) => bytes.length + 1
  | .lit _ => 1
  | .nil => 1
  | .ptr d => uptoBulk d + 1
  | .slice elems spare => uptoBulkAll elems + uptoBulkAll spare + 1
  | .agg parts => uptoBulkAll parts + 1
  | .iface _ d => uptoBulk d + 1
  | .map entries => uptoBulkEntries entries + 1
  | .held _ => 1
def uptoBulkAll {H : Type} : List (DataW H) → Nat
  | [] => 0
  | d :: r => uptoBulk d + uptoBulkAll r
def uptoBulkEntries {H : Type} : List (Lit × DataW H) → Nat
  | [] => 0
  | x :: r => uptoBulkEntry x + uptoBulkEntries r
def uptoBulkEntry {H : Type} : Lit × DataW H → Nat
  | (.string bytes, d) => bytes.length + uptoBulk d + 1
  | (_, d) => uptoBulk d + 1
 end
def uptoSmall : (H : Type) → List (DataW H) → Bool := fun _ ds => decide (uptoBulkAll ds ≤ 1048576)
def OpenSpec.upto (s : _root_.Go.ChangeSpec) : _root_.Go.OpenSpec := { _root_.Go.OpenSpec.ofChange s with cond := some uptoSmall }

/-- 'gyrelaw28.HermiteTells', WHERE WHAT IT READS IS OF BULK AT MOST 1048576: true; the input reads as it did. -/
def hermiteTellsUptoRow : OpenClaim := { program := "ytdnpnccieabmiaadoor", sum := "c2aa0b426918038e03a42f5597fce25a78a79e52501c1437d80b45809238bcb6", func := "gyre/gyrelaw28.HermiteTells", spec := "hermiteTells", inPlace := ["math/bits.Add64"], unfollowed := true, recurses := true, named := ["gyre/quot.least"], apart := false, laid := [("gyre/quot.least", laid_gyre_quot_least)], narrowed := true }
def HermiteTellsUptoSaid : Prop := hermiteTellsUptoRow.holds Tryd.pinned (OpenSpec.upto hermiteTellsSpec)

/-- 'gyrelaw28.HermiteStates', WHERE WHAT IT READS IS OF BULK AT MOST 1048576: true; the input reads as it did. -/
def hermiteStatesUptoRow : OpenClaim := { program := "ytdnpnccieabmiaadoor", sum := "c2aa0b426918038e03a42f5597fce25a78a79e52501c1437d80b45809238bcb6", func := "gyre/gyrelaw28.HermiteStates", spec := "hermiteStates", inPlace := ["math/bits.Add64"], unfollowed := true, recurses := true, named := ["gyre/quot.least"], apart := false, laid := [("gyre/quot.least", laid_gyre_quot_least)], narrowed := true }
def HermiteStatesUptoSaid : Prop := hermiteStatesUptoRow.holds Tryd.pinned (OpenSpec.upto hermiteStatesSpec)

end Rows
end Go.Proofs.YtdnpnccieabmiaaDoor
