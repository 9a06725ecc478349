/-
  The law WordsTells comes to true. Printed by wdT.py.
-/
import Derived.Test.YtpeepbgpcmodcaaDoorTxO
set_option maxRecDepth 100000
namespace Go.Tx
open Go Go.RowKit Go.Sx Go.Proofs
theorem first_not {p : Nat → Prop} : ∀ n, (∀ j, j < n → p j) ∨ ∃ k, k < n ∧ (∀ j, j < k → p j) ∧ ¬ p k
  | 0 => .inl fun j h => absurd h (Nat.not_lt_zero j)
  | n + 1 => by
    rcases first_not (p := p) n with h | ⟨k, h1, h2, h3⟩
    · by_cases hp : p n
      · refine .inl fun j hj => ?_
        rcases Nat.lt_or_ge j n with hj' | hj'
        · exact h j hj'
        · have : j = n := by omega
          rw [this]; exact hp
      · exact .inr ⟨n, Nat.lt_succ_self n, h, hp⟩
    · exact .inr ⟨k, by omega, h2, h3⟩
section
variable (s w : ByteArray) (m c : Int) (n : Nat) (x : Nat → ByteArray)
end
end Go.Tx
