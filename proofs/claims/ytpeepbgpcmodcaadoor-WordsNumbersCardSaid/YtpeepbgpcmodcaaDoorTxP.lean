/-
  Texts, rune by rune: plain.
-/
import Derived.Test.YtpeepbgpcmodcaaDoorSxc
import Derived.Lib.DecodeN
import Derived.Test.YtpeepbgpcmodcaaDoorProg
set_option maxRecDepth 100000
namespace Go.Tx
open Go Go.Proofs
noncomputable abbrev P : Program := Tryd.prog
theorem mo : P.follows .mixedOrders = true := by kernel_rfl
theorem decodeN_w (n b0 b1 b2 b3 : Nat) : 1 ≤ (Lib.decodeN n b0 b1 b2 b3).2 ∧ (Lib.decodeN n b0 b1 b2 b3).2 ≤ 4 := by
  unfold Lib.decodeN
  repeat' split
  all_goals dsimp only
  all_goals omega
theorem dec_w (s : ByteArray) (p : Nat) : 1 ≤ (Utf8.decode s p).2 ∧ (Utf8.decode s p).2 ≤ 4 := by
  rw [Lib.decode_at]
  exact decodeN_w _ _ _ _ _
theorem decodeN_ok (n b0 b1 b2 b3 : Nat) (hn : 1 ≤ n) : (Lib.decodeN n b0 b1 b2 b3).2 ≤ n := by
  unfold Lib.decodeN
  repeat' split
  all_goals dsimp only
  all_goals omega
theorem dec_in {s : ByteArray} {p : Nat} (h : p < s.size) : p + (Utf8.decode s p).2 ≤ s.size := by
  rw [Lib.decode_at]
  have := decodeN_ok (s.size - p) (s.get! p).toNat (s.get! (p + 1)).toNat (s.get! (p + 2)).toNat (s.get! (p + 3)).toNat (by omega)
  omega
def ps (s : ByteArray) : Nat → Nat
  | 0 => 0
  | k + 1 => ps s k + (Utf8.decode s (ps s k)).2
def rn (s : ByteArray) (k : Nat) : Nat := (Utf8.decode s (ps s k)).1
theorem ps_lt (s : ByteArray) (k : Nat) : ps s k < ps s (k + 1) := by
  show ps s k < ps s k + _
  have := (dec_w s (ps s k)).1
  omega
theorem ps_ge (s : ByteArray) : ∀ k, k ≤ ps s k
  | 0 => Nat.zero_le _
  | k + 1 => by have := ps_ge s k; have := ps_lt s k; omega
theorem ps_in {s : ByteArray} {k : Nat} (h : ps s k < s.size) : ps s (k + 1) ≤ s.size := dec_in h
def cnF (s : ByteArray) : Nat → Nat → Nat
  | 0, k => k
  | f + 1, k => if ps s k < s.size then cnF s f (k + 1) else k
def cn (s : ByteArray) : Nat := cnF s s.size 0
theorem cnF_spec (s : ByteArray) : ∀ (f k : Nat), s.size ≤ ps s k + f → k ≤ cnF s f k ∧ s.size ≤ ps s (cnF s f k) ∧ ∀ j, k ≤ j → j < cnF s f k → ps s j < s.size
  | 0, k, h => ⟨Nat.le_refl _, by simpa [cnF] using h, fun j h1 h2 => by simp only [cnF] at h2; omega⟩
  | f + 1, k, h => by
    unfold cnF
    split
    · rename_i hlt
      have := ps_lt s k
      obtain ⟨h1, h2, h3⟩ := cnF_spec s f (k + 1) (by omega)
      refine ⟨by omega, h2, fun j hj1 hj2 => ?_⟩
      rcases Nat.eq_or_lt_of_le hj1 with rfl | hj
      · exact hlt
      · exact h3 j hj hj2
    · exact ⟨Nat.le_refl _, by omega, fun j h1 h2 => by omega⟩
theorem cn_end (s : ByteArray) : s.size ≤ ps s (cn s) := (cnF_spec s s.size 0 (by show s.size ≤ 0 + s.size; omega)).2.1
theorem cn_lt {s : ByteArray} {k : Nat} (h : k < cn s) : ps s k < s.size := (cnF_spec s s.size 0 (by show s.size ≤ 0 + s.size; omega)).2.2 k (Nat.zero_le _) h
theorem ps_mono (s : ByteArray) {j k : Nat} (h : j ≤ k) : ps s j ≤ ps s k := by
  induction k with
  | zero => have : j = 0 := by omega
            subst this; exact Nat.le_refl _
  | succ k ih =>
    rcases Nat.eq_or_lt_of_le h with rfl | h
    · exact Nat.le_refl _
    · have := ih (by omega); have := ps_lt s k; omega
theorem cn_iff (s : ByteArray) (k : Nat) : ps s k < s.size ↔ k < cn s := by
  constructor
  · intro h
    rcases Nat.lt_or_ge k (cn s) with h1 | h1
    · exact h1
    · have := ps_mono s h1; have := cn_end s; omega
  · exact cn_lt
theorem cn_le (s : ByteArray) : cn s ≤ s.size := by
  rcases Nat.eq_zero_or_pos (cn s) with h | h
  · omega
  · have := cn_lt (s := s) (k := cn s - 1) (by omega)
    have := ps_ge s (cn s - 1)
    omega
theorem ps_end (s : ByteArray) : ps s (cn s) = s.size := by
  rcases Nat.eq_zero_or_pos (cn s) with h | h
  · have := cn_end s
    rw [h] at this ⊢
    simp only [ps] at this ⊢
    omega
  · have h1 := ps_in (cn_lt (s := s) (k := cn s - 1) (by omega))
    rw [Nat.sub_add_cancel h] at h1
    have := cn_end s
    omega
end Go.Tx
