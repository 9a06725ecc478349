/-
  What is laid when a law of the Words begins: the tables that the library's functions read.
-/
import Derived.Test.YtpeepbgpcmodcaaDoorTxC
import Derived.Test.YtpeepbgpcmodcaaDoorFrameX
import Derived.Test.YtpeepbgpcmodcaaDoorRows
import Derived.ProofKit
import Derived.LaidMore
import Derived.Lay
import Derived.OpenShut
import Derived.Stop.Joined
set_option maxRecDepth 100000
namespace Go.Proofs.YtpeepbgpcmodcaaDoor
open Go Go.ChangeShapes Go.WideShapes Go.ChangeAt Go.RowKit Go.Sx
theorem own : ownKnob Tryd.prog.godebug = none := by kernel_rfl
theorem laidOut : laidOutB Tryd.prog = true := by kernel_rfl
theorem calls_of_gives {P : Program} {f : FuncId} {args : Array Value} {v : Value} (hf : funOk P f = true) (h : Gives P f args v) : ∀ w, LaidG w → Calls P f args w fun e w' => e = .returned v ∧ Below w.heap.size w w' := by
  intro w hz
  obtain ⟨fn, hfn, hfb, hfname⟩ := funOk_spec hf
  have := h Fence.wide 0 ⟨some 0, .move (.const undef), 0, "", #[], none⟩ ⟨#[undef], []⟩ w (fun a' w' => a'.tmps[0]? = some v ∧ Below w.heap.size w w') (fun _ _ _ => False) rfl rfl rfl hz (fun W' hb => ⟨rfl, hb⟩)
  rw [run_callFunc_body hfn hfb hfname, Oper.uponIn_enter] at this
  rw [← callsIn_wide (n := 0)]
  refine this.2.mono ?_
  intro e w' he
  cases e with
  | returned u =>
    obtain ⟨h1, h2⟩ := he
    have : u = v := by simpa [Act.put] using h1
    exact ⟨by rw [this], h2⟩
  | panicked ch => exact he.elim
  | outgrown => obtain ⟨_, _, hx⟩ := he; exact hx.elim
def laidL : List (String × DataW Unit) := Rows.wordsTellsRow.laid
set_option maxRecDepth 100000 in
theorem laid_met0 (os : Os) (args : Array Value) : laidMet Tryd.prog laidL ((World.laidAll Tryd.prog os laidL).forCall (fun _ _ => 0) ⟨#[], args, []⟩).memory :=
  laidMet_laidAll _ (by kernel_rfl) (by kernel_rfl)
theorem laid_met (os : Os) (args : Array Value) : laidMetH Tryd.prog laidL ((World.laidAll Tryd.prog os laidL).forCall (fun _ _ => 0) ⟨#[], args, []⟩).memory := by
  rw [MakeChecks.laidMetH_plain _ _ _ (by kernel_rfl)]
  exact laid_met0 os args
theorem first_mem : ("unicode/utf8.first", Lib.tabData .u8 Lib.firstTab) ∈ laidL := by
  have : (Rows.laid_unicode_utf8_first : DataW Unit) = Lib.tabData .u8 Lib.firstTab := by kernel_rfl
  rw [← this]
  exact .tail _ (.tail _ (.tail _ (.tail _ (.head _))))
theorem accept_mem : ("unicode/utf8.acceptRanges", Lib.acceptData) ∈ laidL := by
  have : (Rows.laid_unicode_utf8_acceptRanges : DataW Unit) = Lib.acceptData := by kernel_rfl
  rw [← this]
  exact .tail _ (.tail _ (.tail _ (.head _)))
theorem pow_mem : ("internal/strconv.uint64pow10", Lib.tabData .u64 Lib.pow10Tab) ∈ laidL := by
  have : (Rows.laid_internal_strconv_uint64pow10 : DataW Unit) = Lib.tabData .u64 Lib.pow10Tab := by kernel_rfl
  rw [← this]
  exact .tail _ (.tail _ (.head _))
theorem of_laid {W : World} (h : laidMetH Tryd.prog laidL W) : LaidG W := by
  rw [MakeChecks.laidMetH_plain _ _ _ (by kernel_rfl)] at h
  intro x hx
  have hx : x = (0, (.agg ((List.range 256).map fun c => Value.int .u8 (Lib.firstT c)).toArray, 0)) ∨ x = (1, (.agg ((List.range 32).map fun c => Value.int .u8 (if c % 2 = 0 then Lib.accLo (c / 2) else Lib.accHi (c / 2))).toArray, 0)) ∨ x = (2, (.agg (Lib.pow10Tab.map fun z => Value.int .u64 z).toArray, 0)) := by
    simp only [lz, List.mem_cons, List.not_mem_nil, or_false] at hx
    exact hx
  rcases hx with rfl | rfl | rfl
  · obtain ⟨ty, hh⟩ := Fx.laid_tab (g := 0) (len := 256) (t := 75) (e := 5) h first_mem (by kernel_rfl) (by kernel_rfl) (by kernel_rfl) (by kernel_rfl) (by kernel_rfl) (by kernel_rfl) (by decide +kernel)
    refine ⟨ty, hh.trans ?_⟩
    show some (Obj.cells (Lib.firstTab.map fun z => Value.int .u8 z).toArray ty (0, 0)) = some (.cells ((List.range 256).map fun c => Value.int .u8 (Lib.firstT c)).toArray ty)
    unfold Lib.firstTab
    rw [List.map_map]
    rfl
  · obtain ⟨ty, hh⟩ := Fx.laid_accept (g := 1) (t := 79) (e := 78) (b := 5) h accept_mem (by kernel_rfl) (by kernel_rfl) (by kernel_rfl) (f0 := ⟨"lo", 5, 0, false, "", "unicode/utf8", 0⟩) (f1 := ⟨"hi", 5, 1, false, "", "unicode/utf8", 1⟩) (by kernel_rfl) rfl rfl rfl rfl (by kernel_rfl) (by kernel_rfl) (by kernel_rfl) (by kernel_rfl)
    exact ⟨ty, hh⟩
  · obtain ⟨ty, hh⟩ := Fx.laid_tab (g := 2) (len := 20) (t := 91) (e := 81) h pow_mem (by kernel_rfl) (by kernel_rfl) (by kernel_rfl) (by kernel_rfl) (by kernel_rfl) (by kernel_rfl) (by decide +kernel)
    exact ⟨ty, hh⟩
end Go.Proofs.YtpeepbgpcmodcaaDoor
