/-
  Words: what a text is split into. Plain.
-/
import Derived.Test.YtpeepbgpcmodcaaDoorTxG
set_option maxRecDepth 100000
namespace Go.Tx
open Go
def sst (s : ByteArray) : Nat → Int × Nat × List (Int × ByteArray)
  | 0 => (-1, 0, [])
  | k + 1 =>
    if kd (rn s k) == 0 && decide ((sst s k).1 < 0) then ((k : Int), ps s k, (sst s k).2.2)
    else if kd (rn s k) == 1 && decide ((sst s k).1 ≥ 0) then (-1, (sst s k).2.1, (sst s k).2.2 ++ [((sst s k).1, s.extract (sst s k).2.1 (ps s k))])
    else sst s k
theorem sst_b {s : ByteArray} {k : Nat} (h : (kd (rn s k) == 0) = true) (hb : decide ((sst s k).1 < 0) = true) : sst s (k + 1) = ((k : Int), ps s k, (sst s k).2.2) := by
  rw [sst, if_pos (by rw [h, hb]; rfl)]
theorem sst_e {s : ByteArray} {k : Nat} (h : (kd (rn s k) == 1) = true) (hb : decide ((sst s k).1 ≥ 0) = true) : sst s (k + 1) = (-1, (sst s k).2.1, (sst s k).2.2 ++ [((sst s k).1, s.extract (sst s k).2.1 (ps s k))]) := by
  have h0 : (kd (rn s k) == 0) = false := by rw [eq_of_beq h]; rfl
  rw [sst, if_neg (by rw [h0]; simp), if_pos (by rw [h, hb]; rfl)]
theorem sst_n {s : ByteArray} {k : Nat} (h0 : (kd (rn s k) == 0 && decide ((sst s k).1 < 0)) = false) (h1 : (kd (rn s k) == 1 && decide ((sst s k).1 ≥ 0)) = false) : sst s (k + 1) = sst s k := by
  rw [sst, if_neg (by rw [h0]; simp), if_neg (by rw [h1]; simp)]
theorem sst_rng (s : ByteArray) : ∀ k, -1 ≤ (sst s k).1 ∧ (sst s k).1 < (k : Int) ∧ (sst s k).2.1 ≤ ps s k ∧ (sst s k).2.2.length ≤ k
  | 0 => ⟨Int.le_refl _, show (-1 : Int) < 0 by decide, Nat.le_refl _, Nat.le_refl _⟩
  | k + 1 => by
    obtain ⟨h1, h2, h3, h4⟩ := sst_rng s k
    have := ps_lt s k
    rw [sst]
    split
    · exact ⟨by omega, by dsimp only; omega, by dsimp only; omega, by dsimp only; omega⟩
    · split
      · exact ⟨by omega, by dsimp only; omega, by dsimp only; omega, by simp; omega⟩
      · exact ⟨h1, by omega, by omega, by omega⟩
theorem sst_cnt (s : ByteArray) : ∀ k, 2 * (sst s k).2.2.length + (if (sst s k).1 ≥ 0 then 1 else 0) ≤ k
  | 0 => show 0 + (if (-1 : Int) ≥ 0 then 1 else 0) ≤ 0 by decide
  | k + 1 => by
    have ih := sst_cnt s k
    rw [sst]
    split
    · rename_i hc
      simp only [Bool.and_eq_true, decide_eq_true_eq] at hc
      rw [if_neg (by omega)] at ih
      dsimp only
      split <;> omega
    · split
      · rename_i hc
        simp only [Bool.and_eq_true, decide_eq_true_eq] at hc
        rw [if_pos hc.2] at ih
        simp
        omega
      · omega
end Go.Tx
