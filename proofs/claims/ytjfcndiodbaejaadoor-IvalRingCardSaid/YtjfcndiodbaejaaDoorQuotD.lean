/-
  Contracts of package quot, fourth part: plain arithmetic of shifting words.
-/
import Derived.Test.YtjfcndiodbaejaaDoorQuotC
set_option maxRecDepth 100000
namespace Go.Qt
open Go Go.RowKit Go.Sx Go.Nm Go.Wd Go.Proofs

theorem or_add {X Y : Int} {m : Nat} {x : Int} (hX : X = x * 2 ^ m) (h0 : 0 ≤ X) (h1 : X < BB) (hy : 0 ≤ Y) (hy2 : Y < 2 ^ m) (hm : m ≤ 64) : IntKind.u64.wrap ↑(BitVec.ofInt 64 X ||| BitVec.ofInt 64 Y).toNat = X + Y := by
  have hp : (0 : Int) < 2 ^ m := Int.pow_pos (by decide)
  have hx : 0 ≤ x := by
    rcases Int.lt_trichotomy x 0 with h | h | h
    · have := Int.mul_neg_of_neg_of_pos h hp
      omega
    · omega
    · omega
  obtain ⟨u, rfl⟩ : ∃ u : Nat, x = u := ⟨x.toNat, by omega⟩
  obtain ⟨v, rfl⟩ : ∃ v : Nat, Y = v := ⟨Y.toNat, by omega⟩
  have e1 : ((u : Int) * 2 ^ m) = ((u * 2 ^ m : Nat) : Int) := by simp
  have hv : v < 2 ^ m := by
    have : (v : Int) < ((2 ^ m : Nat) : Int) := by simpa using hy2
    omega
  have hv64 : v < 2 ^ 64 := Nat.lt_of_lt_of_le hv (Nat.pow_le_pow_right (by decide) hm)
  have hu64 : u * 2 ^ m < 2 ^ 64 := by
    have : ((u * 2 ^ m : Nat) : Int) < BB := by rw [← e1, ← hX]; exact h1
    have e : BB = ((2 ^ 64 : Nat) : Int) := by decide
    rw [e] at this
    omega
  have hor : (u * 2 ^ m) ||| v = u * 2 ^ m + v := by
    have := Nat.shiftLeft_add_eq_or_of_lt hv u
    rw [Nat.shiftLeft_eq] at this
    exact this.symm
  have hsum : u * 2 ^ m + v < 2 ^ 64 := by rw [← hor]; exact Nat.or_lt_two_pow hu64 hv64
  rw [hX, e1]
  have b1 : (BitVec.ofInt 64 ((u * 2 ^ m : Nat) : Int)).toNat = u * 2 ^ m := by
    rw [BitVec.toNat_ofInt]
    have : (((u * 2 ^ m : Nat) : Int) % ((2 ^ 64 : Nat) : Int)).toNat = (u * 2 ^ m) % 2 ^ 64 := by omega
    rw [this, Nat.mod_eq_of_lt hu64]
  have b2 : (BitVec.ofInt 64 (v : Int)).toNat = v := by
    rw [BitVec.toNat_ofInt]
    have : ((v : Int) % ((2 ^ 64 : Nat) : Int)).toNat = v % 2 ^ 64 := by omega
    rw [this, Nat.mod_eq_of_lt hv64]
  rw [BitVec.toNat_or, b1, b2, hor, wrap_u64]
  have e : BB = ((2 ^ 64 : Nat) : Int) := by decide
  rw [e]
  omega

/-- A word of a number that is doubled m times, of two of its own. -/
theorem sh_word (a C : Int) (m : Nat) (hm : m < 64) (hC : 0 < C) : (a * 2 ^ m) / (C * BB) % BB = ((a / (C * BB) % BB) * 2 ^ m) % BB + (a / C % BB) / 2 ^ (64 - m) := by
  obtain ⟨p, hp⟩ : ∃ p : Int, p = 2 ^ m := ⟨_, rfl⟩
  obtain ⟨s, hs⟩ : ∃ s : Int, s = 2 ^ (64 - m) := ⟨_, rfl⟩
  have hp0 : 0 < p := hp ▸ Int.pow_pos (by decide)
  have hs0 : 0 < s := hs ▸ Int.pow_pos (by decide)
  have hps : p * s = BB := by
    rw [hp, hs, ← Int.pow_add, show m + (64 - m) = 64 by omega]
    decide
  rw [← hp, ← hs]
  have hB : (0 : Int) < BB := by decide
  have e1 : a / (C * BB) = a / C / BB := (Int.ediv_ediv_of_nonneg (Int.le_of_lt hC)).symm
  rw [e1]
  obtain ⟨t, ht⟩ : ∃ t, t = a / C := ⟨_, rfl⟩
  obtain ⟨r, hr⟩ : ∃ r, r = a % C := ⟨_, rfl⟩
  have ha : a = C * t + r := by rw [ht, hr]; exact (Int.mul_ediv_add_emod a C).symm
  have hr0 : 0 ≤ r := hr ▸ Int.emod_nonneg _ (by omega)
  have hr1 : r < C := hr ▸ Int.emod_lt_of_pos _ hC
  obtain ⟨u, hu⟩ : ∃ u, u = t / BB := ⟨_, rfl⟩
  obtain ⟨w, hw⟩ : ∃ w, w = t % BB := ⟨_, rfl⟩
  have htt : t = BB * u + w := by rw [hu, hw]; exact (Int.mul_ediv_add_emod t BB).symm
  have hw0 : 0 ≤ w := hw ▸ Int.emod_nonneg _ (by omega)
  have hw1 : w < BB := hw ▸ Int.emod_lt_of_pos _ hB
  obtain ⟨g, hg⟩ : ∃ g, g = w / s := ⟨_, rfl⟩
  obtain ⟨f, hf⟩ : ∃ f, f = w % s := ⟨_, rfl⟩
  have hww : w = s * g + f := by rw [hg, hf]; exact (Int.mul_ediv_add_emod w s).symm
  have hf0 : 0 ≤ f := hf ▸ Int.emod_nonneg _ (by omega)
  have hf1 : f < s := hf ▸ Int.emod_lt_of_pos _ hs0
  have hg0 : 0 ≤ g := hg ▸ Int.ediv_nonneg hw0 (Int.le_of_lt hs0)
  have hg1 : g < p := by
    rcases Int.lt_or_le g p with h | h
    · exact h
    · exfalso
      have : s * p ≤ s * g := Int.mul_le_mul_of_nonneg_left h (Int.le_of_lt hs0)
      have e : s * p = BB := by rw [Int.mul_comm]; exact hps
      omega
  rw [← ht, ← hu, ← hw, ← hg]
  -- the quotient
  have hq : (a * p) / (C * BB) = u * p + g := by
    have hCB : 0 < C * BB := Int.mul_pos hC hB
    have hrem : a * p = (C * BB) * (u * p + g) + ((f * C + r) * p) := by
      rw [ha, htt, hww, ← hps]
      grind
    have h0 : 0 ≤ (f * C + r) * p := Int.mul_nonneg (by have := Int.mul_nonneg hf0 (Int.le_of_lt hC); omega) (Int.le_of_lt hp0)
    have h1 : (f * C + r) * p < C * BB := by
      have k1 : f * C + r < s * C := by
        have : (f + 1) * C ≤ s * C := Int.mul_le_mul_of_nonneg_right (by omega) (Int.le_of_lt hC)
        have e : (f + 1) * C = f * C + C := by grind
        omega
      have k2 : (f * C + r) * p < s * C * p := Int.mul_lt_mul_of_pos_right k1 hp0
      have e : s * C * p = C * BB := by rw [← hps]; grind
      omega
    rw [hrem, Int.mul_add_ediv_left _ _ (by omega), Int.ediv_eq_zero_of_lt h0 h1]
    omega
  rw [hq]
  -- the rest
  have hd : (u * p) % BB = (u % BB * p) % BB := by
    have := Int.mul_emod (u % BB) p BB
    rw [Int.emod_emod_of_dvd _ (Int.dvd_refl _)] at this
    rw [this]
    exact Int.mul_emod u p BB
  obtain ⟨z, hz⟩ : ∃ z, z = u % s := ⟨_, rfl⟩
  have hz0 : 0 ≤ z := hz ▸ Int.emod_nonneg _ (by omega)
  have hz1 : z < s := hz ▸ Int.emod_lt_of_pos _ hs0
  have hup : u * p = BB * (u / s) + z * p := by
    have := Int.mul_ediv_add_emod u s
    rw [← hz] at this
    rw [← hps]
    have e : u * p = (s * (u / s) + z) * p := by rw [this]
    rw [e]
    grind
  have hzp : z * p + p ≤ BB := by
    have : (z + 1) * p ≤ s * p := Int.mul_le_mul_of_nonneg_right (by omega) (Int.le_of_lt hp0)
    have e : (z + 1) * p = z * p + p := by grind
    have e2 : s * p = BB := by rw [Int.mul_comm]; exact hps
    omega
  have hzp0 : 0 ≤ z * p := Int.mul_nonneg hz0 (Int.le_of_lt hp0)
  have h3 : (u * p) % BB = z * p := by rw [hup, Int.add_comm, Int.add_mul_emod_self_left, Int.emod_eq_of_lt hzp0 (by omega)]
  have h4 : (u * p + g) % BB = z * p + g := by rw [hup, show BB * (u / s) + z * p + g = (z * p + g) + BB * (u / s) by omega, Int.add_mul_emod_self_left, Int.emod_eq_of_lt (by omega) (by omega)]
  rw [h4, ← hd, h3]

/-! ### Words of a shifted number, as the code makes them -/
def sh (n : Int) : Nat := (n % 64).toNat
theorem sh_lt {n : Int} : sh n < 64 := by unfold sh; omega
def lo (x n : Int) : Int := IntKind.u64.wrap (x * 2 ^ (min (n.tmod 64).toNat 64))
def hi (x n : Int) : Int := x.fdiv (2 ^ (min (IntKind.i64.wrap (64 - (n.tmod 64))).toNat 64))
def orW (x y n : Int) : Int := IntKind.u64.wrap ↑(BitVec.ofInt 64 (lo x n) ||| BitVec.ofInt 64 (hi y n)).toNat
theorem lo_eq {x n : Int} (hn : 0 ≤ n) : lo x n = (x * 2 ^ sh n) % BB := by
  unfold lo
  rw [Int.tmod_eq_emod_of_nonneg hn, wrap_u64, show min (n % 64).toNat 64 = sh n from Nat.min_eq_left (by omega)]
theorem hi_eq {x n : Int} (hn : 0 ≤ n) : hi x n = x / 2 ^ (64 - sh n) := by
  unfold hi
  rw [Int.tmod_eq_emod_of_nonneg hn, wrap_i64_in (by omega) (by omega), fd]
  congr 2
  unfold sh
  omega
theorem or_word {x y n : Int} (hn : 0 ≤ n) (hy : 0 ≤ y ∧ y < BB) : orW x y n = (x * 2 ^ sh n) % BB + y / 2 ^ (64 - sh n) := by
  have hm : sh n < 64 := sh_lt
  have hps : (2 : Int) ^ sh n * 2 ^ (64 - sh n) = BB := by
    rw [← Int.pow_add, show sh n + (64 - sh n) = 64 by omega]
    decide
  have hp0 : (0 : Int) < 2 ^ sh n := Int.pow_pos (by decide)
  have hs0 : (0 : Int) < 2 ^ (64 - sh n) := Int.pow_pos (by decide)
  have hB : (0 : Int) < BB := by decide
  unfold orW
  rw [lo_eq hn, hi_eq hn]
  refine or_add (m := sh n) (x := x % 2 ^ (64 - sh n)) ?_ (Int.emod_nonneg _ (by omega)) (Int.emod_lt_of_pos _ hB) (Int.ediv_nonneg hy.1 (Int.le_of_lt hs0)) ?_ (by omega)
  · rw [← hps, Int.mul_comm x, Int.mul_emod_mul_of_pos _ _ hp0, Int.mul_comm]
  · exact Int.ediv_lt_of_lt_mul hs0 (by rw [hps]; exact hy.2)
theorem v0 (a : Int) {n : Int} (hn : 0 ≤ n) : lo (w0 a) n = w0 (a * 2 ^ sh n) := by
  rw [lo_eq hn]
  unfold w0
  have := Int.mul_emod (a % BB) (2 ^ sh n) BB
  rw [Int.emod_emod_of_dvd _ (Int.dvd_refl _), ← Int.mul_emod] at this
  exact this
theorem v1 (a : Int) {n : Int} (hn : 0 ≤ n) : orW (w1 a) (w0 a) n = w1 (a * 2 ^ sh n) := by
  rw [or_word hn (w0_range a)]
  have := sh_word a 1 (sh n) sh_lt (by decide)
  rw [Int.one_mul, Int.ediv_one] at this
  exact this.symm
theorem v2 (a : Int) {n : Int} (hn : 0 ≤ n) : orW (w2 a) (w1 a) n = w2 (a * 2 ^ sh n) := by
  rw [or_word hn (w1_range a)]
  exact (sh_word a BB (sh n) sh_lt (by decide)).symm
theorem v3 (a : Int) {n : Int} (hn : 0 ≤ n) : orW (w3 a) (w2 a) n = w3 (a * 2 ^ sh n) := by
  rw [or_word hn (w2_range a)]
  exact (sh_word a B2 (sh n) sh_lt (by decide)).symm
theorem pow_split {n q : Int} (hn : 0 ≤ n) (hq : n / 64 = q) : (2 : Int) ^ n.toNat = 2 ^ sh n * (2 ^ 64) ^ q.toNat := by
  rw [← Int.pow_mul, ← Int.pow_add]
  congr 1
  unfold sh
  omega
theorem shift_W0 {a n : Int} (hn : 0 ≤ n) (hq : n / 64 = 0) : (.agg #[.int .u64 (lo (w0 a) n), .int .u64 (orW (w1 a) (w0 a) n), .int .u64 (orW (w2 a) (w1 a) n), .int .u64 (orW (w3 a) (w2 a) n)] : Value) = W (a * 2 ^ n.toNat) := by
  rw [v0 a hn, v1 a hn, v2 a hn, v3 a hn, pow_split hn hq]
  simp only [Int.toNat_zero, Int.pow_zero, Int.mul_one]
  rfl
theorem shift_W1 {a n : Int} (hn : 0 ≤ n) (hq : n / 64 = 1) : (.agg #[.int .u64 0, .int .u64 (lo (w0 a) n), .int .u64 (orW (w1 a) (w0 a) n), .int .u64 (orW (w2 a) (w1 a) n)] : Value) = W (a * 2 ^ n.toNat) := by
  rw [v0 a hn, v1 a hn, v2 a hn, pow_split hn hq]
  have e : ((2 : Int) ^ 64) ^ (1 : Int).toNat = BB := by decide
  rw [e, ← Int.mul_assoc]
  generalize a * 2 ^ sh n = b
  refine (W_words ?_ ?_ ?_ ?_).symm
  · unfold w0; simp only [BB]; omega
  · unfold w1 w0; simp only [BB]; omega
  · unfold w2 w1; simp only [BB, B2]; omega
  · unfold w3 w2; simp only [BB, B2, B3]; omega
theorem shift_W2 {a n : Int} (hn : 0 ≤ n) (hq : n / 64 = 2) : (.agg #[.int .u64 0, .int .u64 0, .int .u64 (lo (w0 a) n), .int .u64 (orW (w1 a) (w0 a) n)] : Value) = W (a * 2 ^ n.toNat) := by
  rw [v0 a hn, v1 a hn, pow_split hn hq]
  have e : ((2 : Int) ^ 64) ^ (2 : Int).toNat = B2 := by decide
  rw [e, ← Int.mul_assoc]
  generalize a * 2 ^ sh n = b
  refine (W_words ?_ ?_ ?_ ?_).symm
  · unfold w0; simp only [BB, B2]; omega
  · unfold w1; simp only [BB, B2]; omega
  · unfold w2 w0; simp only [BB, B2]; omega
  · unfold w3 w1; simp only [BB, B2, B3]; omega
theorem shift_W3 {a n : Int} (hn : 0 ≤ n) (hq : n / 64 = 3) : (.agg #[.int .u64 0, .int .u64 0, .int .u64 0, .int .u64 (lo (w0 a) n)] : Value) = W (a * 2 ^ n.toNat) := by
  rw [v0 a hn, pow_split hn hq]
  have e : ((2 : Int) ^ 64) ^ (3 : Int).toNat = B3 := by decide
  rw [e, ← Int.mul_assoc]
  generalize a * 2 ^ sh n = b
  refine (W_words ?_ ?_ ?_ ?_).symm
  · unfold w0; simp only [BB, B3]; omega
  · unfold w1; simp only [BB, B3]; omega
  · unfold w2; simp only [BB, B2, B3]; omega
  · unfold w3 w0; simp only [BB, B3]; omega
end Go.Qt
