/-
  Words: what a blank is. Printed by wdG.py.
-/
import Derived.Test.YtpeepbgpcmodcaaDoorTxK
set_option maxRecDepth 100000
namespace Go.Tx
open Go Go.RowKit Go.Sx Go.Proofs
theorem kd_bl (c : Int) : (kd c == 1) = bl c := by
  unfold kd
  cases bl c with
  | true => rfl
  | false => cases ((c == 127) || ((c == 65533) || decide (c < 32))) <;> rfl
noncomputable def Z7 : Env P := ⟨⟨[kd_c], [], []⟩, [], 10, []⟩
theorem wb0_leaf (c : Int)   : Gives P 16 #[.int .i32 c] (.bool (bl c)) := by
  refine gives_of_run (E := Z7) (lv := 1) (ds := []) (v := .bool (kd c == 1)) (ps := [rP [.int .i32 c]]) mo (by kernel_rfl) (ps_cons trivial ps_nil) ?_
  rw [kd_bl]
theorem wb_ok (c : Int) : Gives P 16 #[.int .i32 c] (.bool (bl c)) := by
  exact wb0_leaf c  
noncomputable def wb_c : Ctr P := ⟨16, rP, rV fun c => .bool (bl c), r_gives wb_ok⟩
end Go.Tx
