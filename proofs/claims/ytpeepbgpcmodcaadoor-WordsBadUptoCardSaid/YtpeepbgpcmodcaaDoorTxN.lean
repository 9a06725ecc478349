/-
  Words: Stands. Printed by wdN.py.
-/
import Derived.Test.YtpeepbgpcmodcaaDoorTxM
set_option maxRecDepth 100000
namespace Go.Tx
open Go Go.RowKit Go.Sx Go.Proofs
theorem tl_beq (a b : ByteArray) : (a.toList == b.toList) = (a == b) := by
  rw [ByteArray.toList_eq, ByteArray.toList_eq]
  cases a with | mk a =>
  cases b with | mk b =>
  show (a.toList == b.toList) = (a == b)
  rw [Bool.eq_iff_iff, beq_iff_eq, beq_iff_eq, Array.toList_inj]
end Go.Tx
