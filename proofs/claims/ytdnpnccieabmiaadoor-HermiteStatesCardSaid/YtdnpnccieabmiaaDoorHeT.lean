/-
  The law HermiteTells comes to true. Printed by heT.py.
-/
import Derived.Test.YtdnpnccieabmiaaDoorHeR
import Derived.Test.YtdnpnccieabmiaaDoorHeS
set_option maxRecDepth 100000
namespace Go.He
open Go Go.RowKit Go.Sx Go.Nm Go.Wd Go.Qt Go.Proofs
theorem riB_n {s : Int} {n : Nat} {l : Nat → Bd} (h : riB s n l = true) : (1 ≤ n ∧ n ≤ 4) ∧ -1073741824 ≤ s ∧ s ≤ 1073741824 ∧ allB n l = true := by
  unfold riB stB at h
  simp only [Bool.and_eq_true, decide_eq_true_eq] at h
  exact ⟨⟨h.2.1, h.2.2.1⟩, h.1.1, h.1.2, h.2.2.2⟩
theorem ps_app {a b : List Prop} (h1 : ∀ c ∈ a, c) (h2 : ∀ c ∈ b, c) : ∀ c ∈ a ++ b, c := fun c hc => (List.mem_append.1 hc).elim (h1 c) (h2 c)
end Go.He
