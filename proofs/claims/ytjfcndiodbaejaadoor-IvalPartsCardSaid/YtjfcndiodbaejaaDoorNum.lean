/-
  Whole numbers of 256 bits as Go's arrays of four words: plain arithmetic.
-/
import Derived.WalkKit
namespace Go.Nm
open Go

abbrev BB : Int := 18446744073709551616
abbrev B2 : Int := 340282366920938463463374607431768211456
abbrev B3 : Int := 6277101735386680763835789423207666416102355444464034512896
abbrev MM : Int := 115792089237316195423570985008687907853269984665640564039457584007913129639936
abbrev HH : Int := 57896044618658097711785492504343953926634992332820282019728792003956564819968

def w0 (n : Int) : Int := n % BB
def w1 (n : Int) : Int := n / BB % BB
def w2 (n : Int) : Int := n / B2 % BB
def w3 (n : Int) : Int := n / B3 % BB

/-- The array that n is, by its rest by 2^256. -/
def W (n : Int) : Value := .agg #[.int .u64 (w0 n), .int .u64 (w1 n), .int .u64 (w2 n), .int .u64 (w3 n)]

/-- The number's rest from -2^255 on. -/
def bm (n : Int) : Int := (n + HH) % MM - HH

def InR (n : Int) : Prop := -HH ≤ n ∧ n < HH

def tI (v : Value) : Int :=
  match v with
  | .agg cs => match cs.toList with
    | [.int _ a, .int _ b, .int _ c, .int _ d] => bm (a + BB * b + B2 * c + B3 * d)
    | _ => 0
  | _ => 0

theorem bm_in {n : Int} (h : InR n) : bm n = n := by
  unfold InR at h
  unfold bm
  simp only [HH, MM] at *
  omega

theorem bm_range (n : Int) : InR (bm n) := by
  unfold InR bm
  simp only [HH, MM] at *
  omega

theorem bm_mod (n : Int) : bm n % MM = n % MM := by
  unfold bm
  simp only [HH, MM] at *
  omega

theorem bm_congr {m n : Int} (h : m % MM = n % MM) : bm m = bm n := by
  unfold bm
  simp only [HH, MM] at *
  omega

theorem words_sum (n : Int) : w0 n + BB * w1 n + B2 * w2 n + B3 * w3 n = n % MM := by
  unfold w0 w1 w2 w3
  simp only [BB, B2, B3, MM]
  omega

theorem w0_range (n : Int) : 0 ≤ w0 n ∧ w0 n < BB := by unfold w0; simp only [BB]; omega
theorem w1_range (n : Int) : 0 ≤ w1 n ∧ w1 n < BB := by unfold w1; simp only [BB]; omega
theorem w2_range (n : Int) : 0 ≤ w2 n ∧ w2 n < BB := by unfold w2; simp only [BB, B2]; omega
theorem w3_range (n : Int) : 0 ≤ w3 n ∧ w3 n < BB := by unfold w3; simp only [BB, B3]; omega

theorem tI_W (n : Int) : tI (W n) = bm n := by
  have : tI (W n) = bm (w0 n + BB * w1 n + B2 * w2 n + B3 * w3 n) := rfl
  rw [this, words_sum]
  exact bm_congr (by simp only [MM]; omega)

theorem W_words {n a b c d : Int} (ha : w0 n = a) (hb : w1 n = b) (hc : w2 n = c) (hd : w3 n = d) : W n = .agg #[.int .u64 a, .int .u64 b, .int .u64 c, .int .u64 d] := by
  unfold W; rw [ha, hb, hc, hd]

/-- Four words are an array of a number. -/
theorem W_of {a b c d n : Int} (h1 : 0 ≤ a) (h2 : a < BB) (h3 : 0 ≤ b) (h4 : b < BB) (h5 : 0 ≤ c) (h6 : c < BB) (h7 : 0 ≤ d) (h8 : d < BB)
    (h : (a + BB * b + B2 * c + B3 * d) % MM = n % MM) : .agg #[.int .u64 a, .int .u64 b, .int .u64 c, .int .u64 d] = W n := by
  have e := words_sum n
  have r0 := w0_range n
  have r1 := w1_range n
  have r2 := w2_range n
  have r3 := w3_range n
  refine (W_words ?_ ?_ ?_ ?_).symm <;> simp only [BB, B2, B3, MM] at * <;> omega

theorem W_congr {m n : Int} (h : m % MM = n % MM) : W m = W n := by
  have r0 := w0_range m
  have r1 := w1_range m
  have r2 := w2_range m
  have r3 := w3_range m
  exact W_of r0.1 r0.2 r1.1 r1.2 r2.1 r2.2 r3.1 r3.2 (by rw [words_sum]; simp only [MM] at *; omega)

def weq (m n : Int) : Bool := (w0 m == w0 n) && ((w1 m == w1 n) && ((w2 m == w2 n) && (w3 m == w3 n)))

theorem weq_iff {m n : Int} : weq m n = true ↔ m % MM = n % MM := by
  have e := words_sum m
  have f := words_sum n
  have r0 := w0_range m
  have r1 := w1_range m
  have r2 := w2_range m
  have r3 := w3_range m
  have s0 := w0_range n
  have s1 := w1_range n
  have s2 := w2_range n
  have s3 := w3_range n
  simp only [weq, Bool.and_eq_true, beq_iff_eq]
  constructor
  · rintro ⟨h0, h1, h2, h3⟩
    rw [← e, ← f, h0, h1, h2, h3]
  · intro h
    refine ⟨?_, ?_, ?_, ?_⟩ <;> simp only [BB, B2, B3, MM] at * <;> omega

theorem weq_eq (m n : Int) : weq m n = decide (m % MM = n % MM) := by
  rw [Bool.eq_iff_iff, weq_iff, decide_eq_true_iff]

theorem wrap_i64_word {n : Int} (h : 0 ≤ n) (h2 : n < BB) : IntKind.i64.wrap n = if n < 9223372036854775808 then n else n - BB := by
  simp only [BB] at *
  have e : IntKind.i64.wrap n = if n % 18446744073709551616 ≥ 9223372036854775808 then n % 18446744073709551616 - 18446744073709551616 else n % 18446744073709551616 := by
    simp [IntKind.wrap, IntKind.signed, IntKind.bits]
  rw [e]
  split <;> split <;> omega

theorem wrap_u64 (n : Int) : IntKind.u64.wrap n = n % BB := by
  simp [IntKind.wrap, IntKind.signed, IntKind.bits]

theorem wrap_i64_in {n : Int} (h : -9223372036854775808 ≤ n) (h2 : n < 9223372036854775808) : IntKind.i64.wrap n = n := by
  have e : IntKind.i64.wrap n = if n % 18446744073709551616 ≥ 9223372036854775808 then n % 18446744073709551616 - 18446744073709551616 else n % 18446744073709551616 := by
    simp [IntKind.wrap, IntKind.signed, IntKind.bits]
  rw [e]
  split <;> omega

/-- below 0, by the highest word. -/
theorem low_w3 (n : Int) : decide (IntKind.i64.wrap (w3 n) < 0) = decide (bm n < 0) := by
  have r3 := w3_range n
  rw [wrap_i64_word r3.1 r3.2]
  have e := words_sum n
  have r0 := w0_range n
  have r1 := w1_range n
  have r2 := w2_range n
  have hb := bm_mod n
  have hr := bm_range n
  unfold InR at hr
  rw [decide_eq_decide]
  simp only [BB, B2, B3, MM, HH] at *
  split <;> omega
end Go.Nm
