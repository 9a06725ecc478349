/-
  NARROWER THAN 'FOR EVERY INPUT', by the rows' own cells (each row's printed sentence says how): WaveOne: laid · WaveSums: laid · StumpffOnes: laid · StumpffWaves: laid · StumpffFour: laid · StumpffTerms: laid.
  DERIVED. THE GIVEN ROWS OF THIS SEAT. 6 by the template 'for every input the law returns true; each argument reads behind the call as it read before'; 0 by the template 'total and deterministic' (their statements: YtmlmfjlecgcndaaGreatDoorTotals.lean).
  GIVEN WITH THE SEED: the statements are not yours to turn. If you find one false, say at which input.
  Laid BY PROGRAM, IN A SANDBOX (cutbox-rows.mjs): the forced cells as the released guide's own fill.sh prints them over the translation b7984da83337795e… (all of the seat's roots in one cut). By AI agents, Wed Nov 11 2026. No macro, syntax, notation, axiom, sorry.
-/
import Derived.Test.YtmlmfjlecgcndaaGreatDoorChecked
import GoSem.Claim
import GoSem.ClaimJoined
import GoSem.ClaimMapViews
import Derived.JoinedTies
import Derived.KernelRfl
namespace Go.Proofs.YtmlmfjlecgcndaaGreatDoor
/- THE CELL 'sum', in the pinned program and in every row, IS THE sha256 OF THE DUMP (.gsa) THAT YtmlmfjlecgcndaaGreatDoorProg.lean LOADS. Nothing in Lean hashes anything: it is a label: what it is worth is what the hold of that sum in a sandbox is worth. -/
noncomputable def Tryz.pinned : Pinned := { name := "ytmlmfjlecgcndaagreatdoor", sum := "b7984da83337795ecdf133b7a3d7c421c95cd4ccd5cc75526eb23f284ccf1fdc", checked := Tryz.checked }
namespace Rows
def none {H : Type} : Left H := { results := [], args := [] }

/- WHAT THE LISTED PACKAGE-LEVEL VARIABLES READ AS WHEN THE CALL BEGINS. Each datum BY PROGRAM (the guide's laid-datum.mjs) off the statement by which the dump's own 'gosem.cut.vars' lays the variable. In a bare row this is a premise. The card (YtmlmfjlecgcndaaGreatDoorCards.lean) ties it to the program's text. -/
def laid_gyre_quot_least {H : Type} : DataW H := .agg [.lit (.int .u64 0), .lit (.int .u64 0), .lit (.int .u64 0), .lit (.int .u64 9223372036854775808)]

/-- 'gyrelaw07.WaveOne': WHATEVER THE INPUT: true; the input reads as it did. -/
def waveOneSpec : ChangeSpec := { name := "waveOne", fn := fun _ => fun
  | [d] => { results := [.lit (.bool true)], args := [d] }
  | _ => none }
def waveOneRow : OpenClaim := { program := "ytmlmfjlecgcndaagreatdoor", sum := "b7984da83337795ecdf133b7a3d7c421c95cd4ccd5cc75526eb23f284ccf1fdc", func := "gyre/gyrelaw07.WaveOne", spec := "waveOne", inPlace := ["math/bits.Add64"], unfollowed := true, recurses := true, named := ["gyre/quot.least"], apart := false, laid := [("gyre/quot.least", laid_gyre_quot_least)] }
def WaveOneSaid : Prop := waveOneRow.holds Tryz.pinned (OpenSpec.ofChange waveOneSpec)

/-- ITS FALSE NEIGHBOUR: 'it returns false'. Refute it at one input. -/
def waveOneWrong : ChangeSpec := { name := "waveOne", fn := fun _ => fun
  | [d] => { results := [.lit (.bool false)], args := [d] }
  | _ => none }
def WaveOneWrongFalsely : Prop := waveOneRow.holds Tryz.pinned (OpenSpec.ofChange waveOneWrong)

/-- 'gyrelaw07.WaveSums': WHATEVER THE INPUT: true; the input reads as it did. -/
def waveSumsSpec : ChangeSpec := { name := "waveSums", fn := fun _ => fun
  | [d1, d2] => { results := [.lit (.bool true)], args := [d1, d2] }
  | _ => none }
def waveSumsRow : OpenClaim := { program := "ytmlmfjlecgcndaagreatdoor", sum := "b7984da83337795ecdf133b7a3d7c421c95cd4ccd5cc75526eb23f284ccf1fdc", func := "gyre/gyrelaw07.WaveSums", spec := "waveSums", inPlace := ["math/bits.Add64"], unfollowed := true, recurses := true, named := ["gyre/quot.least"], apart := false, laid := [("gyre/quot.least", laid_gyre_quot_least)] }
def WaveSumsSaid : Prop := waveSumsRow.holds Tryz.pinned (OpenSpec.ofChange waveSumsSpec)

/-- ITS FALSE NEIGHBOUR: 'it returns false'. Refute it at one input. -/
def waveSumsWrong : ChangeSpec := { name := "waveSums", fn := fun _ => fun
  | [d1, d2] => { results := [.lit (.bool false)], args := [d1, d2] }
  | _ => none }
def WaveSumsWrongFalsely : Prop := waveSumsRow.holds Tryz.pinned (OpenSpec.ofChange waveSumsWrong)

/-- 'gyrelaw08.StumpffOnes': WHATEVER THE INPUT: true; the input reads as it did. -/
def stumpffOnesSpec : ChangeSpec := { name := "stumpffOnes", fn := fun _ => fun
  | [d1, d2] => { results := [.lit (.bool true)], args := [d1, d2] }
  | _ => none }
def stumpffOnesRow : OpenClaim := { program := "ytmlmfjlecgcndaagreatdoor", sum := "b7984da83337795ecdf133b7a3d7c421c95cd4ccd5cc75526eb23f284ccf1fdc", func := "gyre/gyrelaw08.StumpffOnes", spec := "stumpffOnes", inPlace := ["math/bits.Add64"], unfollowed := true, recurses := true, named := ["gyre/quot.least"], apart := false, laid := [("gyre/quot.least", laid_gyre_quot_least)] }
def StumpffOnesSaid : Prop := stumpffOnesRow.holds Tryz.pinned (OpenSpec.ofChange stumpffOnesSpec)

/-- ITS FALSE NEIGHBOUR: 'it returns false'. Refute it at one input. -/
def stumpffOnesWrong : ChangeSpec := { name := "stumpffOnes", fn := fun _ => fun
  | [d1, d2] => { results := [.lit (.bool false)], args := [d1, d2] }
  | _ => none }
def StumpffOnesWrongFalsely : Prop := stumpffOnesRow.holds Tryz.pinned (OpenSpec.ofChange stumpffOnesWrong)

/-- 'gyrelaw08.StumpffWaves': WHATEVER THE INPUT: true; the input reads as it did. -/
def stumpffWavesSpec : ChangeSpec := { name := "stumpffWaves", fn := fun _ => fun
  | [d] => { results := [.lit (.bool true)], args := [d] }
  | _ => none }
def stumpffWavesRow : OpenClaim := { program := "ytmlmfjlecgcndaagreatdoor", sum := "b7984da83337795ecdf133b7a3d7c421c95cd4ccd5cc75526eb23f284ccf1fdc", func := "gyre/gyrelaw08.StumpffWaves", spec := "stumpffWaves", inPlace := ["math/bits.Add64"], unfollowed := true, recurses := true, named := ["gyre/quot.least"], apart := false, laid := [("gyre/quot.least", laid_gyre_quot_least)] }
def StumpffWavesSaid : Prop := stumpffWavesRow.holds Tryz.pinned (OpenSpec.ofChange stumpffWavesSpec)

/-- ITS FALSE NEIGHBOUR: 'it returns false'. Refute it at one input. -/
def stumpffWavesWrong : ChangeSpec := { name := "stumpffWaves", fn := fun _ => fun
  | [d] => { results := [.lit (.bool false)], args := [d] }
  | _ => none }
def StumpffWavesWrongFalsely : Prop := stumpffWavesRow.holds Tryz.pinned (OpenSpec.ofChange stumpffWavesWrong)

/-- 'gyrelaw08.StumpffFour': WHATEVER THE INPUT: true; the input reads as it did. -/
def stumpffFourSpec : ChangeSpec := { name := "stumpffFour", fn := fun _ => fun
  | [d] => { results := [.lit (.bool true)], args := [d] }
  | _ => none }
def stumpffFourRow : OpenClaim := { program := "ytmlmfjlecgcndaagreatdoor", sum := "b7984da83337795ecdf133b7a3d7c421c95cd4ccd5cc75526eb23f284ccf1fdc", func := "gyre/gyrelaw08.StumpffFour", spec := "stumpffFour", inPlace := ["math/bits.Add64"], unfollowed := true, recurses := true, named := ["gyre/quot.least"], apart := false, laid := [("gyre/quot.least", laid_gyre_quot_least)] }
def StumpffFourSaid : Prop := stumpffFourRow.holds Tryz.pinned (OpenSpec.ofChange stumpffFourSpec)

/-- ITS FALSE NEIGHBOUR: 'it returns false'. Refute it at one input. -/
def stumpffFourWrong : ChangeSpec := { name := "stumpffFour", fn := fun _ => fun
  | [d] => { results := [.lit (.bool false)], args := [d] }
  | _ => none }
def StumpffFourWrongFalsely : Prop := stumpffFourRow.holds Tryz.pinned (OpenSpec.ofChange stumpffFourWrong)

/-- 'gyrelaw08.StumpffTerms': WHATEVER THE INPUT: true; the input reads as it did. -/
def stumpffTermsSpec : ChangeSpec := { name := "stumpffTerms", fn := fun _ => fun
  | [d1, d2, d3] => { results := [.lit (.bool true)], args := [d1, d2, d3] }
  | _ => none }
def stumpffTermsRow : OpenClaim := { program := "ytmlmfjlecgcndaagreatdoor", sum := "b7984da83337795ecdf133b7a3d7c421c95cd4ccd5cc75526eb23f284ccf1fdc", func := "gyre/gyrelaw08.StumpffTerms", spec := "stumpffTerms", inPlace := ["math/bits.Add64"], unfollowed := true, recurses := true, named := ["gyre/quot.least"], apart := false, laid := [("gyre/quot.least", laid_gyre_quot_least)] }
def StumpffTermsSaid : Prop := stumpffTermsRow.holds Tryz.pinned (OpenSpec.ofChange stumpffTermsSpec)

/-- ITS FALSE NEIGHBOUR: 'it returns false'. Refute it at one input. -/
def stumpffTermsWrong : ChangeSpec := { name := "stumpffTerms", fn := fun _ => fun
  | [d1, d2, d3] => { results := [.lit (.bool false)], args := [d1, d2, d3] }
  | _ => none }
def StumpffTermsWrongFalsely : Prop := stumpffTermsRow.holds Tryz.pinned (OpenSpec.ofChange stumpffTermsWrong)

/- THE SECOND FORM. 'bulk': how many values and letters a reading holds, each counted each time it is reached (what is shared counts as often as it is met; a slice's spare places count too). A statement '..UptoSaid' is the law's where the arguments, and the package variables that the reading takes, are together of bulk at most 1048576: NARROWER than '..Said'. Prove '..Said' where nothing that the law and all that it calls make is longer than what came in: it says more and counts as full. Else prove '..UptoSaid'. A law counts once. -/
mutual
def uptoBulk {H : Type} : DataW H → Nat
  | .lit (.string bytes) => bytes.length + 1
  | .lit _ => 1
  | .nil => 1
  | .ptr d => uptoBulk d + 1
  | .slice elems spare => uptoBulkAll elems + uptoBulkAll spare + 1
  | .agg parts => uptoBulkAll parts + 1
  | .iface _ d => uptoBulk d + 1
  | .map entries => uptoBulkEntries entries + 1
  | .held _ => 1
def uptoBulkAll {H : Type} : List (DataW H) → Nat
  | [] => 0
  | d :: r => uptoBulk d + uptoBulkAll r
def uptoBulkEntries {H : Type} : List (Lit × DataW H) → Nat
  | [] => 0
  | x :: r => uptoBulkEntry x + uptoBulkEntries r
def uptoBulkEntry {H : Type} : Lit × DataW H → Nat
  | (.string bytes, d) => bytes.length + uptoBulk d + 1
  | (_, d) => uptoBulk d + 1
 end
def uptoSmall : (H : Type) → List (DataW H) → Bool := fun _ ds => decide (uptoBulkAll ds ≤ 1048576)
def OpenSpec.upto (s : _root_.Go.ChangeSpec) : _root_.Go.OpenSpec := { _root_.Go.OpenSpec.ofChange s with cond := some uptoSmall }

/-- 'gyrelaw07.WaveOne', WHERE WHAT IT READS IS OF BULK AT MOST 1048576: true; the input reads as it did. -/
def waveOneUptoRow : OpenClaim := { program := "ytmlmfjlecgcndaagreatdoor", sum := "b7984da83337795ecdf133b7a3d7c421c95cd4ccd5cc75526eb23f284ccf1fdc", func := "gyre/gyrelaw07.WaveOne", spec := "waveOne", inPlace := ["math/bits.Add64"], unfollowed := true, recurses := true, named := ["gyre/quot.least"], apart := false, laid := [("gyre/quot.least", laid_gyre_quot_least)], narrowed := true }
def WaveOneUptoSaid : Prop := waveOneUptoRow.holds Tryz.pinned (OpenSpec.upto waveOneSpec)

/-- 'gyrelaw07.WaveSums', WHERE WHAT IT READS IS OF BULK AT MOST 1048576: true; the input reads as it did. -/
def waveSumsUptoRow : OpenClaim := { program := "ytmlmfjlecgcndaagreatdoor", sum := "b7984da83337795ecdf133b7a3d7c421c95cd4ccd5cc75526eb23f284ccf1fdc", func := "gyre/gyrelaw07.WaveSums", spec := "waveSums", inPlace := ["math/bits.Add64"], unfollowed := true, recurses := true, named := ["gyre/quot.least"], apart := false, laid := [("gyre/quot.least", laid_gyre_quot_least)], narrowed := true }
def WaveSumsUptoSaid : Prop := waveSumsUptoRow.holds Tryz.pinned (OpenSpec.upto waveSumsSpec)

/-- 'gyrelaw08.StumpffOnes', WHERE WHAT IT READS IS OF BULK AT MOST 1048576: true; the input reads as it did. -/
def stumpffOnesUptoRow : OpenClaim := { program := "ytmlmfjlecgcndaagreatdoor", sum := "b7984da83337795ecdf133b7a3d7c421c95cd4ccd5cc75526eb23f284ccf1fdc", func := "gyre/gyrelaw08.StumpffOnes", spec := "stumpffOnes", inPlace := ["math/bits.Add64"], unfollowed := true, recurses := true, named := ["gyre/quot.least"], apart := false, laid := [("gyre/quot.least", laid_gyre_quot_least)], narrowed := true }
def StumpffOnesUptoSaid : Prop := stumpffOnesUptoRow.holds Tryz.pinned (OpenSpec.upto stumpffOnesSpec)

/-- 'gyrelaw08.StumpffWaves', WHERE WHAT IT READS IS OF BULK AT MOST 1048576: true; the input reads as it did. -/
def stumpffWavesUptoRow : OpenClaim := { program := "ytmlmfjlecgcndaagreatdoor", sum := "b7984da83337795ecdf133b7a3d7c421c95cd4ccd5cc75526eb23f284ccf1fdc", func := "gyre/gyrelaw08.StumpffWaves", spec := "stumpffWaves", inPlace := ["math/bits.Add64"], unfollowed := true, recurses := true, named := ["gyre/quot.least"], apart := false, laid := [("gyre/quot.least", laid_gyre_quot_least)], narrowed := true }
def StumpffWavesUptoSaid : Prop := stumpffWavesUptoRow.holds Tryz.pinned (OpenSpec.upto stumpffWavesSpec)

/-- 'gyrelaw08.StumpffFour', WHERE WHAT IT READS IS OF BULK AT MOST 1048576: true; the input reads as it did. -/
def stumpffFourUptoRow : OpenClaim := { program := "ytmlmfjlecgcndaagreatdoor", sum := "b7984da83337795ecdf133b7a3d7c421c95cd4ccd5cc75526eb23f284ccf1fdc", func := "gyre/gyrelaw08.StumpffFour", spec := "stumpffFour", inPlace := ["math/bits.Add64"], unfollowed := true, recurses := true, named := ["gyre/quot.least"], apart := false, laid := [("gyre/quot.least", laid_gyre_quot_least)], narrowed := true }
def StumpffFourUptoSaid : Prop := stumpffFourUptoRow.holds Tryz.pinned (OpenSpec.upto stumpffFourSpec)

/-- 'gyrelaw08.StumpffTerms', WHERE WHAT IT READS IS OF BULK AT MOST 1048576: true; the input reads as it did. -/
def stumpffTermsUptoRow : OpenClaim := { program := "ytmlmfjlecgcndaagreatdoor", sum := "b7984da83337795ecdf133b7a3d7c421c95cd4ccd5cc75526eb23f284ccf1fdc", func := "gyre/gyrelaw08.StumpffTerms", spec := "stumpffTerms", inPlace := ["math/bits.Add64"], unfollowed := true, recurses := true, named := ["gyre/quot.least"], apart := false, laid := [("gyre/quot.least", laid_gyre_quot_least)], narrowed := true }
def StumpffTermsUptoSaid : Prop := stumpffTermsUptoRow.holds Tryz.pinned (OpenSpec.upto stumpffTermsSpec)

end Rows
end Go.Proofs.YtmlmfjlecgcndaaGreatDoor
