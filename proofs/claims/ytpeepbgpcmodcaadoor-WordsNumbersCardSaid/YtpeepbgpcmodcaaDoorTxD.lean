/-
  Words: the reference's count. Printed by wdD.py.
-/
import Derived.Test.YtpeepbgpcmodcaaDoorTxQ
set_option maxRecDepth 100000
namespace Go.Tx
open Go Go.RowKit Go.Sx Go.Proofs
end Go.Tx
