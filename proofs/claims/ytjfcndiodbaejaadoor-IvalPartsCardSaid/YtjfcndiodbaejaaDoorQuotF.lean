/-
  Contracts of package quot, sixth part: the floor by doubling: plain arithmetic.
-/
import Derived.Test.YtjfcndiodbaejaaDoorQuotE
set_option maxRecDepth 100000
namespace Go.Qt
open Go Go.RowKit Go.Sx Go.Nm Go.Wd Go.Proofs

theorem pow2_pos (k : Nat) : (0 : Int) < 2 ^ k := Int.pow_pos (by decide)
theorem pow2_le {m n : Nat} (h : m ≤ n) : (2 : Int) ^ m ≤ 2 ^ n := by
  have := Nat.pow_le_pow_right (n := 2) (by decide) h
  have h2 : ((2 ^ m : Nat) : Int) ≤ ((2 ^ n : Nat) : Int) := by exact_mod_cast this
  simpa using h2
theorem bl_lt {x : Int} (h : 0 ≤ x) : x < 2 ^ (bl x).toNat := by
  unfold bl
  by_cases e : x = 0
  · rw [if_pos e, e]; decide
  · rw [if_neg e]
    obtain ⟨n, rfl⟩ : ∃ n : Nat, x = n := ⟨x.toNat, by omega⟩
    have h1 : (((n : Int).toNat.log2 : Int) + 1).toNat = n.log2 + 1 := by rw [Int.toNat_natCast]; omega
    rw [h1]
    have := Nat.lt_log2_self (n := n)
    have h2 : ((n : Nat) : Int) < ((2 ^ (n.log2 + 1) : Nat) : Int) := by exact_mod_cast this
    simpa using h2
theorem bl_ge {x : Int} (h : 0 < x) : 1 ≤ bl x ∧ 2 ^ (bl x - 1).toNat ≤ x := by
  unfold bl
  rw [if_neg (by omega)]
  obtain ⟨n, rfl⟩ : ∃ n : Nat, x = n := ⟨x.toNat, by omega⟩
  refine ⟨by omega, ?_⟩
  have h1 : (((n : Int).toNat.log2 : Int) + 1 - 1).toNat = n.log2 := by rw [Int.toNat_natCast]; omega
  rw [h1]
  have := Nat.log2_self_le (n := n) (by omega)
  have h2 : ((2 ^ n.log2 : Nat) : Int) ≤ ((n : Nat) : Int) := by exact_mod_cast this
  simpa using h2
theorem bl_255 {x : Int} (h : 0 ≤ x) (h2 : x < HH) : bl x ≤ 255 := bl_le 255 h (by simpa [HH] using h2)

/-- A step of halving. -/
theorem div_step {a m : Int} (hm : 0 < m) : (m ≤ a % (2 * m) → a % m = a % (2 * m) - m ∧ a / m = 2 * (a / (2 * m)) + 1) ∧ (¬ m ≤ a % (2 * m) → a % m = a % (2 * m) ∧ a / m = 2 * (a / (2 * m))) := by
  have e := Int.mul_ediv_add_emod a (2 * m)
  have r0 := Int.emod_nonneg a (b := 2 * m) (by omega)
  have r1 := Int.emod_lt_of_pos a (b := 2 * m) (by omega)
  generalize a / (2 * m) = t at *
  generalize a % (2 * m) = r at *
  have e2 : 2 * m * t = m * (2 * t) := by rw [Int.mul_comm 2 m, Int.mul_assoc]
  refine ⟨fun h => ?_, fun h => ?_⟩
  · have := (Int.ediv_emod_unique (a := a) (b := m) (r := r - m) (q := 2 * t + 1) hm).2 ⟨by rw [Int.mul_add, ← e2]; omega, by omega, by omega⟩
    exact ⟨this.2, this.1⟩
  · have := (Int.ediv_emod_unique (a := a) (b := m) (r := r) (q := 2 * t) hm).2 ⟨by rw [← e2]; omega, by omega, by omega⟩
    exact ⟨this.2, this.1⟩

/-- A word, and a bit above which it is 0. -/
theorem or_bit {X i : Int} (hi : 0 ≤ i ∧ i < 64) (h0 : 0 ≤ X) (h1 : X < BB) (hz : X % 2 ^ (i.toNat + 1) = 0) :
    IntKind.u64.wrap ↑(BitVec.ofInt 64 X ||| BitVec.ofInt 64 (IntKind.u64.wrap (1 * 2 ^ (min (i.toNat) 64)))).toNat = X + 2 ^ i.toNat ∧ X + 2 ^ i.toNat < BB := by
  obtain ⟨n, hn⟩ : ∃ n : Nat, i.toNat = n := ⟨_, rfl⟩
  rw [hn] at hz ⊢
  have hn64 : n < 64 := by omega
  have hp := pow2_pos n
  have hs : (2 : Int) ^ (n + 1) = 2 ^ n * 2 := Int.pow_succ ..
  have hB : (BB : Int) = 2 ^ (n + 1) * 2 ^ (63 - n) := by
    rw [← Int.pow_add, show n + 1 + (63 - n) = 64 by omega]; decide
  have hX : X = X / 2 ^ (n + 1) * 2 ^ (n + 1) := by
    have := Int.ediv_mul_add_emod X (2 ^ (n + 1))
    omega
  have hlt : (2 : Int) ^ n < BB := by
    have : (2 : Int) ^ n < 2 ^ 64 := Int.pow_lt_pow_of_lt (by decide) hn64
    simpa [BB] using this
  have hq : X / 2 ^ (n + 1) + 1 ≤ 2 ^ (63 - n) := by
    have : X / 2 ^ (n + 1) < 2 ^ (63 - n) := Int.ediv_lt_of_lt_mul (pow2_pos _) (by rw [Int.mul_comm, ← hB]; exact h1)
    omega
  have hfin : X + 2 ^ (n + 1) ≤ BB := by
    have := Int.mul_le_mul_of_nonneg_right hq (Int.le_of_lt (pow2_pos (n + 1)))
    rw [Int.add_mul, ← hX, Int.one_mul, Int.mul_comm (2 ^ (63 - n)), ← hB] at this
    exact this
  refine ⟨?_, by omega⟩
  have e1 : IntKind.u64.wrap (1 * 2 ^ (min n 64)) = 2 ^ n := by
    rw [Nat.min_eq_left (by omega), Int.one_mul, wrap_u64, Int.emod_eq_of_lt (by omega) hlt]
  rw [e1]
  exact or_add hX h0 h1 (by omega) (by omega) (by omega)
theorem word_zero {t : Int} {i : Nat} (hi : i < 64) : (t * 2 ^ (i + 1)) % BB % 2 ^ (i + 1) = 0 := by
  have hB : (BB : Int) = 2 ^ (i + 1) * 2 ^ (63 - i) := by
    rw [← Int.pow_add, show i + 1 + (63 - i) = 64 by omega]; decide
  rw [hB, Int.emod_emod_of_dvd _ (Int.dvd_mul_right _ _), Int.mul_emod_left]

def bitW (X n : Int) : Int := IntKind.u64.wrap ↑(BitVec.ofInt 64 X ||| BitVec.ofInt 64 (IntKind.u64.wrap (1 * 2 ^ (min (n.tmod 64).toNat 64)))).toNat
theorem bit_pow {n j : Int} (h : 0 ≤ n) (hj : n / 64 = j) : (2 : Int) ^ n.toNat = (2 ^ 64) ^ j.toNat * 2 ^ (n % 64).toNat := by
  rw [← Int.pow_mul, ← Int.pow_add]
  congr 1
  omega
theorem bit_pow1 {n j : Int} (h : 0 ≤ n) (hj : n / 64 = j) : (2 : Int) ^ (n.toNat + 1) = 2 ^ ((n % 64).toNat + 1) * (2 ^ 64) ^ j.toNat := by
  rw [Int.pow_succ 2 n.toNat, bit_pow h hj, Int.pow_succ 2 (n % 64).toNat, Int.mul_assoc, Int.mul_comm]
theorem bit_core {X n : Int} {t : Int} (h : 0 ≤ n) (hX : X = (t * 2 ^ ((n % 64).toNat + 1)) % BB) : bitW X n = X + 2 ^ (n % 64).toNat ∧ X + 2 ^ (n % 64).toNat < BB := by
  unfold bitW
  rw [Int.tmod_eq_emod_of_nonneg h]
  have hb : (BB : Int) = 18446744073709551616 := rfl
  refine or_bit ⟨by omega, by omega⟩ ?_ ?_ ?_
  · rw [hX]; exact Int.emod_nonneg _ (by rw [hb]; decide)
  · rw [hX]; exact Int.emod_lt_of_pos _ (by rw [hb]; decide)
  · rw [hX]; exact word_zero (by omega)
theorem setbit0 {t n q q' : Int} (h : 0 ≤ n) (hj : n / 64 = 0) (hq : q = t * 2 ^ (n.toNat + 1)) (hq' : q' = q + 2 ^ n.toNat) (_ : 0 ≤ q) : bitW (w0 q) n = w0 q' ∧ w1 q = w1 q' ∧ w2 q = w2 q' ∧ w3 q = w3 q' := by
  have e := bit_pow h hj
  have e1 := bit_pow1 h hj
  have hX : w0 q = (t * 2 ^ ((n % 64).toNat + 1)) % BB := by rw [hq, e1]; simp [w0]
  obtain ⟨f1, f2⟩ := bit_core h hX
  rw [f1]
  have hp := pow2_pos (n % 64).toNat
  simp only [Int.toNat_zero, Int.pow_zero, Int.one_mul] at e
  rw [e] at hq'
  generalize (2 : Int) ^ (n % 64).toNat = y at *
  unfold w0 w1 w2 w3 at *
  simp only [BB, B2, B3] at *
  omega
theorem setbit1 {t n q q' : Int} (h : 0 ≤ n) (hj : n / 64 = 1) (hq : q = t * 2 ^ (n.toNat + 1)) (hq' : q' = q + 2 ^ n.toNat) (_ : 0 ≤ q) : w0 q = w0 q' ∧ bitW (w1 q) n = w1 q' ∧ w2 q = w2 q' ∧ w3 q = w3 q' := by
  have e := bit_pow h hj
  have e1 := bit_pow1 h hj
  have c : ((2 : Int) ^ 64) ^ (1 : Int).toNat = BB := by decide
  rw [c] at e e1
  have hX : w1 q = (t * 2 ^ ((n % 64).toNat + 1)) % BB := by
    unfold w1
    rw [hq, e1, ← Int.mul_assoc, Int.mul_ediv_cancel _ (by decide)]
  obtain ⟨f1, f2⟩ := bit_core h hX
  rw [f1]
  have hp := pow2_pos (n % 64).toNat
  rw [e] at hq'
  generalize (2 : Int) ^ (n % 64).toNat = y at *
  unfold w0 w1 w2 w3 at *
  simp only [BB, B2, B3] at *
  omega
theorem setbit2 {t n q q' : Int} (h : 0 ≤ n) (hj : n / 64 = 2) (hq : q = t * 2 ^ (n.toNat + 1)) (hq' : q' = q + 2 ^ n.toNat) (_ : 0 ≤ q) : w0 q = w0 q' ∧ w1 q = w1 q' ∧ bitW (w2 q) n = w2 q' ∧ w3 q = w3 q' := by
  have e := bit_pow h hj
  have e1 := bit_pow1 h hj
  have c : ((2 : Int) ^ 64) ^ (2 : Int).toNat = B2 := by decide
  rw [c] at e e1
  have hX : w2 q = (t * 2 ^ ((n % 64).toNat + 1)) % BB := by
    unfold w2
    rw [hq, e1, ← Int.mul_assoc, Int.mul_ediv_cancel _ (by decide)]
  obtain ⟨f1, f2⟩ := bit_core h hX
  rw [f1]
  have hp := pow2_pos (n % 64).toNat
  rw [e] at hq'
  generalize (2 : Int) ^ (n % 64).toNat = y at *
  unfold w0 w1 w2 w3 at *
  simp only [BB, B2, B3] at *
  omega
theorem setbit3 {t n q q' : Int} (h : 0 ≤ n) (hj : n / 64 = 3) (hq : q = t * 2 ^ (n.toNat + 1)) (hq' : q' = q + 2 ^ n.toNat) (_ : 0 ≤ q) : w0 q = w0 q' ∧ w1 q = w1 q' ∧ w2 q = w2 q' ∧ bitW (w3 q) n = w3 q' := by
  have e := bit_pow h hj
  have e1 := bit_pow1 h hj
  have c : ((2 : Int) ^ 64) ^ (3 : Int).toNat = B3 := by decide
  rw [c] at e e1
  have hX : w3 q = (t * 2 ^ ((n % 64).toNat + 1)) % BB := by
    unfold w3
    rw [hq, e1, ← Int.mul_assoc, Int.mul_ediv_cancel _ (by decide)]
  obtain ⟨f1, f2⟩ := bit_core h hX
  rw [f1]
  have hp := pow2_pos (n % 64).toNat
  rw [e] at hq'
  generalize (2 : Int) ^ (n % 64).toNat = y at *
  unfold w0 w1 w2 w3 at *
  simp only [BB, B2, B3] at *
  omega

/-- How far the shifted divisor reaches. -/
theorem reach {a b : Int} (ha : 0 ≤ a) (hb : 0 < b) (hn : 0 ≤ bl a - bl b) : a < b * 2 ^ ((bl a - bl b).toNat + 1) := by
  have h1 := bl_lt ha
  obtain ⟨h2, h3⟩ := bl_ge hb
  have h4 := Int.mul_le_mul_of_nonneg_right h3 (Int.le_of_lt (pow2_pos ((bl a - bl b).toNat + 1)))
  rw [← Int.pow_add, show (bl b - 1).toNat + ((bl a - bl b).toNat + 1) = (bl a).toNat by omega] at h4
  omega
theorem reach0 {a b : Int} (ha : 0 ≤ a) (hb : 0 < b) (hn : bl a - bl b < 0) : a < b := by
  have h1 := bl_lt ha
  obtain ⟨h2, h3⟩ := bl_ge hb
  have h4 : (2 : Int) ^ (bl a).toNat ≤ 2 ^ (bl b - 1).toNat := pow2_le (by omega)
  omega
theorem shifted {a b n : Int} (ha : 0 ≤ a) (ha2 : a < HH) (hb : 0 < b) (hn : 0 ≤ n) (hn2 : n ≤ bl a - bl b) : b * 2 ^ n.toNat < HH := by
  have h1 := bl_lt (Int.le_of_lt hb)
  have h2 := bl_255 ha ha2
  have h4 := Int.mul_lt_mul_of_pos_right h1 (pow2_pos n.toNat)
  rw [← Int.pow_add] at h4
  have h5 : (2 : Int) ^ ((bl b).toNat + n.toNat) ≤ 2 ^ 255 := pow2_le (by have := (bl_ge hb).1; omega)
  have h6 : (2 : Int) ^ 255 = HH := by decide
  omega
end Go.Qt
