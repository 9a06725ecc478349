/-
  NARROWER THAN 'FOR EVERY INPUT', by the rows' own cells (each row's printed sentence says how): WaveParts: laid · StumpffParts: laid.
  DERIVED. THE GIVEN ROWS OF THIS SEAT. 2 by the template 'for every input the law returns true; each argument reads behind the call as it read before'; 0 by the template 'total and deterministic' (their statements: YtmlmfjlecgcndaaDoorTotals.lean).
  GIVEN WITH THE SEED: the statements are not yours to turn. If you find one false, say at which input.
  Laid BY PROGRAM, IN A SANDBOX (cutbox-rows.mjs): the forced cells as the released guide's own fill.sh prints them over the translation 869fb0a80b6a28a9… (all of the seat's roots in one cut). By AI agents, Wed Nov 11 2026. No macro, syntax, notation, axiom, sorry.
-/
import Derived.Test.YtmlmfjlecgcndaaDoorChecked
import GoSem.Claim
import GoSem.ClaimJoined
import GoSem.ClaimMapViews
import Derived.JoinedTies
import Derived.KernelRfl
namespace Go.Proofs.YtmlmfjlecgcndaaDoor
/- THE CELL 'sum', in the pinned program and in every row, IS THE sha256 OF THE DUMP (.gsa) THAT YtmlmfjlecgcndaaDoorProg.lean LOADS. Nothing in Lean hashes anything: it is a label: what it is worth is what the hold of that sum in a sandbox is worth. -/
noncomputable def Tryd.pinned : Pinned := { name := "ytmlmfjlecgcndaadoor", sum := "869fb0a80b6a28a9ed2ff8c85cd64528e51391216c259308c0e41846fd9f78b8", checked := Tryd.checked }
namespace Rows
def none {H : Type} : Left H := { results := [], args := [] }

/- WHAT THE LISTED PACKAGE-LEVEL VARIABLES READ AS WHEN THE CALL BEGINS. Each datum BY PROGRAM (the guide's laid-datum.mjs) off the statement by which the dump's own 'gosem.cut.vars' lays the variable. In a bare row this is a premise. The card (YtmlmfjlecgcndaaDoorCards.lean) ties it to the program's text. -/
def laid_gyre_quot_least {H : Type} : DataW H := .agg [.lit (.int .u64 0), .lit (.int .u64 0), .lit (.int .u64 0), .lit (.int .u64 9223372036854775808)]

/-- 'gyrelaw07.WaveParts': WHATEVER THE INPUT: true; the input reads as it did. -/
def wavePartsSpec : ChangeSpec := { name := "waveParts", fn := fun _ => fun
  | [d1, d2, d3] => { results := [.lit (.bool true)], args := [d1, d2, d3] }
  | _ => none }
def wavePartsRow : OpenClaim := { program := "ytmlmfjlecgcndaadoor", sum := "869fb0a80b6a28a9ed2ff8c85cd64528e51391216c259308c0e41846fd9f78b8", func := "gyre/gyrelaw07.WaveParts", spec := "waveParts", inPlace := ["math/bits.Add64"], unfollowed := true, recurses := true, named := ["gyre/quot.least"], apart := false, laid := [("gyre/quot.least", laid_gyre_quot_least)] }
def WavePartsSaid : Prop := wavePartsRow.holds Tryd.pinned (OpenSpec.ofChange wavePartsSpec)

/-- ITS FALSE NEIGHBOUR: 'it returns false'. Refute it at one input. -/
def wavePartsWrong : ChangeSpec := { name := "waveParts", fn := fun _ => fun
  | [d1, d2, d3] => { results := [.lit (.bool false)], args := [d1, d2, d3] }
  | _ => none }
def WavePartsWrongFalsely : Prop := wavePartsRow.holds Tryd.pinned (OpenSpec.ofChange wavePartsWrong)

/-- 'gyrelaw08.StumpffParts': WHATEVER THE INPUT: true; the input reads as it did. -/
def stumpffPartsSpec : ChangeSpec := { name := "stumpffParts", fn := fun _ => fun
  | [d1, d2, d3] => { results := [.lit (.bool true)], args := [d1, d2, d3] }
  | _ => none }
def stumpffPartsRow : OpenClaim := { program := "ytmlmfjlecgcndaadoor", sum := "869fb0a80b6a28a9ed2ff8c85cd64528e51391216c259308c0e41846fd9f78b8", func := "gyre/gyrelaw08.StumpffParts", spec := "stumpffParts", inPlace := ["math/bits.Add64"], unfollowed := true, recurses := true, named := ["gyre/quot.least"], apart := false, laid := [("gyre/quot.least", laid_gyre_quot_least)] }
def StumpffPartsSaid : Prop := stumpffPartsRow.holds Tryd.pinned (OpenSpec.ofChange stumpffPartsSpec)

/-- ITS FALSE NEIGHBOUR: 'it returns false'. Refute it at one input. -/
def stumpffPartsWrong : ChangeSpec := { name := "stumpffParts", fn := fun _ => fun
  | [d1, d2, d3] => { results := [.lit (.bool false)], args := [d1, d2, d3] }
  | _ => none }
def StumpffPartsWrongFalsely : Prop := stumpffPartsRow.holds Tryd.pinned (OpenSpec.ofChange stumpffPartsWrong)

/- THE SECOND FORM. 'bulk': how many values and letters a reading holds, each counted each time it is reached (what is shared counts as often as it is met; a slice's spare places count too). A statement '..UptoSaid' is the law's where the arguments, and the package variables that the reading takes, are together of bulk at most 1048576: NARROWER than '..Said'. Prove '..Said' where nothing that the law and all that it calls make is longer than what came in: it says more and counts as full. Else prove '..UptoSaid'. A law counts once. -/
mutual
def uptoBulk {H : Type} : DataW H → Nat
  | .lit (.string bytes) => bytes.length + 1
  | .lit _ => 1
  | .nil => 1
  | .ptr d => uptoBulk d + 1
  | .slice elems spare => uptoBulkAll elems + uptoBulkAll spare + 1
  | .agg parts => uptoBulkAll parts + 1
  | .iface _ d => uptoBulk d + 1
  | .map entries => uptoBulkEntries entries + 1
  | .held _ => 1
def uptoBulkAll {H : Type} : List (DataW H) → Nat
  | [] => 0
  | d :: r => uptoBulk d + uptoBulkAll r
def uptoBulkEntries {H : Type} : List (Lit × DataW H) → Nat
  | [] => 0
  | x :: r => uptoBulkEntry x + uptoBulkEntries r
def uptoBulkEntry {H : Type} : Lit × DataW H → Nat
  | (.string bytes, d) => bytes.length + uptoBulk d + 1
  | (_, d) => uptoBulk d + 1
 end
def uptoSmall : (H : Type) → List (DataW H) → Bool := fun _ ds => decide (uptoBulkAll ds ≤ 1048576)
def OpenSpec.upto (s : _root_.Go.ChangeSpec) : _root_.Go.OpenSpec := { _root_.Go.OpenSpec.ofChange s with cond := some uptoSmall }

/-- 'gyrelaw07.WaveParts', WHERE WHAT IT READS IS OF BULK AT MOST 1048576: true; the input reads as it did. -/
def wavePartsUptoRow : OpenClaim := { program := "ytmlmfjlecgcndaadoor", sum := "869fb0a80b6a28a9ed2ff8c85cd64528e51391216c259308c0e41846fd9f78b8", func := "gyre/gyrelaw07.WaveParts", spec := "waveParts", inPlace := ["math/bits.Add64"], unfollowed := true, recurses := true, named := ["gyre/quot.least"], apart := false, laid := [("gyre/quot.least", laid_gyre_quot_least)], narrowed := true }
def WavePartsUptoSaid : Prop := wavePartsUptoRow.holds Tryd.pinned (OpenSpec.upto wavePartsSpec)

/-- 'gyrelaw08.StumpffParts', WHERE WHAT IT READS IS OF BULK AT MOST 1048576: true; the input reads as it did. -/
def stumpffPartsUptoRow : OpenClaim := { program := "ytmlmfjlecgcndaadoor", sum := "869fb0a80b6a28a9ed2ff8c85cd64528e51391216c259308c0e41846fd9f78b8", func := "gyre/gyrelaw08.StumpffParts", spec := "stumpffParts", inPlace := ["math/bits.Add64"], unfollowed := true, recurses := true, named := ["gyre/quot.least"], apart := false, laid := [("gyre/quot.least", laid_gyre_quot_least)], narrowed := true }
def StumpffPartsUptoSaid : Prop := stumpffPartsUptoRow.holds Tryd.pinned (OpenSpec.upto stumpffPartsSpec)

end Rows
end Go.Proofs.YtmlmfjlecgcndaaDoor
