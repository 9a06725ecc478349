/-
  Tools for the laws over wide numbers: rests as a ring, order.
-/
import Derived.Test.YtdnpnccieabmiaaDoorWda
set_option maxRecDepth 100000
namespace Go.Wd
open Go Go.RowKit Go.Sx Go.Nm Go.Proofs
theorem P1_W (n : Int) : P1 [W n] := ⟨n, rfl⟩
theorem P2_W (m n : Int) : P2 [W m, W n] := ⟨⟨m, rfl⟩, ⟨n, rfl⟩⟩
def o (n : Int) : BitVec 256 := BitVec.ofInt 256 n
theorem tI_in {n : Int} (h : InR n) : tI (W n) = n := by rw [tI_W, bm_in h]
theorem inR64 {n : Int} (h : I64 n) : InR n := by unfold I64 InR at *; simp only [HH]; omega
theorem inRB_of {n : Int} (h : InR n) : inRB n = true := by unfold inRB InR at *; simp [h.1, h.2]
theorem inRB_iff {n : Int} : inRB n = true ↔ InR n := by unfold inRB InR; simp
theorem inRB_not {n : Int} : inRB n = false ↔ ¬ InR n := by rw [← inRB_iff]; simp
theorem inR_1 : InR 1 := by unfold InR; decide
theorem inR_0 : InR 0 := by unfold InR; decide
theorem mul64_in {n m : Int} (hn : I64 n) (hm : I64 m) : InR (n * m) := by
  unfold I64 at *
  unfold InR
  have h1 : (n * m).natAbs ≤ 9223372036854775808 * 9223372036854775808 := by
    rw [Int.natAbs_mul]
    exact Nat.mul_le_mul (by omega) (by omega)
  simp only [HH]
  omega
end Go.Wd
