/-
  Contracts of package quot, first part: must, sure, told.
-/
import Derived.Test.YtpofhfhejnapkaaRfb
import Derived.Test.YtpofhfhejnapkaaSxc
set_option maxRecDepth 100000
namespace Go.Qt
open Go Go.RowKit Go.Sx Go.Nm Go.Wd Go.Proofs
end Go.Qt
/-
  Contracts of package quot, second part: how many bits a number has. Printed by quotB.py.
-/
namespace Go.Qt
open Go Go.RowKit Go.Sx Go.Nm Go.Wd Go.Proofs
def len8 : ByteArray := ⟨#[0, 1, 2, 2, 3, 3, 3, 3, 4, 4, 4, 4, 4, 4, 4, 4, 5, 5, 5, 5, 5, 5, 5, 5, 5, 5, 5, 5, 5, 5, 5, 5, 6, 6, 6, 6, 6, 6, 6, 6, 6, 6, 6, 6, 6, 6, 6, 6, 6, 6, 6, 6, 6, 6, 6, 6, 6, 6, 6, 6, 6, 6, 6, 6, 7, 7, 7, 7, 7, 7, 7, 7, 7, 7, 7, 7, 7, 7, 7, 7, 7, 7, 7, 7, 7, 7, 7, 7, 7, 7, 7, 7, 7, 7, 7, 7, 7, 7, 7, 7, 7, 7, 7, 7, 7, 7, 7, 7, 7, 7, 7, 7, 7, 7, 7, 7, 7, 7, 7, 7, 7, 7, 7, 7, 7, 7, 7, 7, 8, 8, 8, 8, 8, 8, 8, 8, 8, 8, 8, 8, 8, 8, 8, 8, 8, 8, 8, 8, 8, 8, 8, 8, 8, 8, 8, 8, 8, 8, 8, 8, 8, 8, 8, 8, 8, 8, 8, 8, 8, 8, 8, 8, 8, 8, 8, 8, 8, 8, 8, 8, 8, 8, 8, 8, 8, 8, 8, 8, 8, 8, 8, 8, 8, 8, 8, 8, 8, 8, 8, 8, 8, 8, 8, 8, 8, 8, 8, 8, 8, 8, 8, 8, 8, 8, 8, 8, 8, 8, 8, 8, 8, 8, 8, 8, 8, 8, 8, 8, 8, 8, 8, 8, 8, 8, 8, 8, 8, 8, 8, 8, 8, 8, 8, 8, 8, 8, 8, 8, 8, 8, 8, 8, 8, 8, 8, 8]⟩
def bl (n : Int) : Int := if n = 0 then 0 else (n.toNat.log2 : Int) + 1
set_option maxRecDepth 10000 in
theorem len8_all : ∀ i : Fin 256, strAt len8 (i.val : Int) = bl (i.val : Int) := by decide +kernel
theorem len8_at {i : Int} (h : 0 ≤ i) (h2 : i < 256) : strAt len8 i = bl i := by
  have := len8_all ⟨i.toNat, by omega⟩
  simp only [Int.toNat_of_nonneg h] at this
  exact this
theorem bl_small {x : Int} (h : 0 ≤ x) (h2 : x < 256) : 0 ≤ bl x ∧ bl x ≤ 8 := by
  have : ∀ i : Fin 256, 0 ≤ bl (i.val : Int) ∧ bl (i.val : Int) ≤ 8 := by decide +kernel
  have := this ⟨x.toNat, by omega⟩
  simpa only [Int.toNat_of_nonneg h] using this
theorem wrap_u8 {x : Int} (h : 0 ≤ x) (h2 : x < 256) : IntKind.u8.wrap x = x := by
  have : IntKind.u8.wrap x = x % 256 := by simp [IntKind.wrap, IntKind.signed, IntKind.bits]
  rw [this]; omega
theorem fd (x : Int) (k : Nat) : x.fdiv (2 ^ k) = x / 2 ^ k := Int.fdiv_eq_ediv_of_nonneg _ (Int.le_of_lt (Int.pow_pos (by decide)))
theorem last {x y : Int} {s : Int} (hy : 0 ≤ y) (hy2 : y < 256) (hs : 0 ≤ s ∧ s ≤ 56) (e : bl x = s + bl y) : Value.int .i64 (IntKind.i64.wrap (s + IntKind.i64.wrap (strAt len8 (IntKind.u8.wrap y)))) = .int .i64 (bl x) := by
  have hb := bl_small hy hy2
  rw [wrap_u8 hy hy2, len8_at hy hy2, wrap_i64_in (n := bl y) (by omega) (by omega), wrap_i64_in (by omega) (by omega), e]
theorem len8_size : (len8.size : Int) = 256 := by kernel_rfl
theorem fits {y : Int} (hy : 0 ≤ y) (hy2 : y < 256) : 0 ≤ IntKind.u8.wrap y ∧ IntKind.u8.wrap y < (len8.size : Int) := by
  rw [wrap_u8 hy hy2]
  rw [len8_size]
  exact ⟨hy, hy2⟩
end Go.Qt
/-
  Contracts of package quot, third part: size, shift. Printed by quotC.py.
-/
namespace Go.Qt
open Go Go.RowKit Go.Sx Go.Nm Go.Wd Go.Proofs
def sizeV : List Value → Value
  | [x] => .int .i64 (bl (tI x % MM))
  | _ => undef
theorem bl_le {x : Int} (k : Nat) (h : 0 ≤ x) (h2 : x < 2 ^ k) : bl x ≤ k := by
  unfold bl
  by_cases e : x = 0
  · rw [if_pos e]; omega
  · rw [if_neg e]
    obtain ⟨n, rfl⟩ : ∃ n : Nat, x = n := ⟨x.toNat, by omega⟩
    simp only [Int.toNat_natCast]
    have hn : n < 2 ^ k := by
      have : (n : Int) < ((2 ^ k : Nat) : Int) := by simpa using h2
      omega
    have := (Nat.log2_lt (n := n) (k := k) (by omega)).2 hn
    omega
end Go.Qt
/-
  Contracts of package quot, fourth part: plain arithmetic of shifting words.
-/
namespace Go.Qt
open Go Go.RowKit Go.Sx Go.Nm Go.Wd Go.Proofs
theorem or_add {X Y : Int} {m : Nat} {x : Int} (hX : X = x * 2 ^ m) (h0 : 0 ≤ X) (h1 : X < BB) (hy : 0 ≤ Y) (hy2 : Y < 2 ^ m) (hm : m ≤ 64) : IntKind.u64.wrap ↑(BitVec.ofInt 64 X ||| BitVec.ofInt 64 Y).toNat = X + Y := by
  have hp : (0 : Int) < 2 ^ m := Int.pow_pos (by decide)
  have hx : 0 ≤ x := by
    rcases Int.lt_trichotomy x 0 with h | h | h
    · have := Int.mul_neg_of_neg_of_pos h hp
      omega
    · omega
    · omega
  obtain ⟨u, rfl⟩ : ∃ u : Nat, x = u := ⟨x.toNat, by omega⟩
  obtain ⟨v, rfl⟩ : ∃ v : Nat, Y = v := ⟨Y.toNat, by omega⟩
  have e1 : ((u : Int) * 2 ^ m) = ((u * 2 ^ m : Nat) : Int) := by simp
  have hv : v < 2 ^ m := by
    have : (v : Int) < ((2 ^ m : Nat) : Int) := by simpa using hy2
    omega
  have hv64 : v < 2 ^ 64 := Nat.lt_of_lt_of_le hv (Nat.pow_le_pow_right (by decide) hm)
  have hu64 : u * 2 ^ m < 2 ^ 64 := by
    have : ((u * 2 ^ m : Nat) : Int) < BB := by rw [← e1, ← hX]; exact h1
    have e : BB = ((2 ^ 64 : Nat) : Int) := by decide
    rw [e] at this
    omega
  have hor : (u * 2 ^ m) ||| v = u * 2 ^ m + v := by
    have := Nat.shiftLeft_add_eq_or_of_lt hv u
    rw [Nat.shiftLeft_eq] at this
    exact this.symm
  have hsum : u * 2 ^ m + v < 2 ^ 64 := by rw [← hor]; exact Nat.or_lt_two_pow hu64 hv64
  rw [hX, e1]
  have b1 : (BitVec.ofInt 64 ((u * 2 ^ m : Nat) : Int)).toNat = u * 2 ^ m := by
    rw [BitVec.toNat_ofInt]
    have : (((u * 2 ^ m : Nat) : Int) % ((2 ^ 64 : Nat) : Int)).toNat = (u * 2 ^ m) % 2 ^ 64 := by omega
    rw [this, Nat.mod_eq_of_lt hu64]
  have b2 : (BitVec.ofInt 64 (v : Int)).toNat = v := by
    rw [BitVec.toNat_ofInt]
    have : ((v : Int) % ((2 ^ 64 : Nat) : Int)).toNat = v % 2 ^ 64 := by omega
    rw [this, Nat.mod_eq_of_lt hv64]
  rw [BitVec.toNat_or, b1, b2, hor, wrap_u64]
  have e : BB = ((2 ^ 64 : Nat) : Int) := by decide
  rw [e]
  omega
theorem sh_word (a C : Int) (m : Nat) (hm : m < 64) (hC : 0 < C) : (a * 2 ^ m) / (C * BB) % BB = ((a / (C * BB) % BB) * 2 ^ m) % BB + (a / C % BB) / 2 ^ (64 - m) := by
  obtain ⟨p, hp⟩ : ∃ p : Int, p = 2 ^ m := ⟨_, rfl⟩
  obtain ⟨s, hs⟩ : ∃ s : Int, s = 2 ^ (64 - m) := ⟨_, rfl⟩
  have hp0 : 0 < p := hp ▸ Int.pow_pos (by decide)
  have hs0 : 0 < s := hs ▸ Int.pow_pos (by decide)
  have hps : p * s = BB := by
    rw [hp, hs, ← Int.pow_add, show m + (64 - m) = 64 by omega]
    decide
  rw [← hp, ← hs]
  have hB : (0 : Int) < BB := by decide
  have e1 : a / (C * BB) = a / C / BB := (Int.ediv_ediv_of_nonneg (Int.le_of_lt hC)).symm
  rw [e1]
  obtain ⟨t, ht⟩ : ∃ t, t = a / C := ⟨_, rfl⟩
  obtain ⟨r, hr⟩ : ∃ r, r = a % C := ⟨_, rfl⟩
  have ha : a = C * t + r := by rw [ht, hr]; exact (Int.mul_ediv_add_emod a C).symm
  have hr0 : 0 ≤ r := hr ▸ Int.emod_nonneg _ (by omega)
  have hr1 : r < C := hr ▸ Int.emod_lt_of_pos _ hC
  obtain ⟨u, hu⟩ : ∃ u, u = t / BB := ⟨_, rfl⟩
  obtain ⟨w, hw⟩ : ∃ w, w = t % BB := ⟨_, rfl⟩
  have htt : t = BB * u + w := by rw [hu, hw]; exact (Int.mul_ediv_add_emod t BB).symm
  have hw0 : 0 ≤ w := hw ▸ Int.emod_nonneg _ (by omega)
  have hw1 : w < BB := hw ▸ Int.emod_lt_of_pos _ hB
  obtain ⟨g, hg⟩ : ∃ g, g = w / s := ⟨_, rfl⟩
  obtain ⟨f, hf⟩ : ∃ f, f = w % s := ⟨_, rfl⟩
  have hww : w = s * g + f := by rw [hg, hf]; exact (Int.mul_ediv_add_emod w s).symm
  have hf0 : 0 ≤ f := hf ▸ Int.emod_nonneg _ (by omega)
  have hf1 : f < s := hf ▸ Int.emod_lt_of_pos _ hs0
  have hg0 : 0 ≤ g := hg ▸ Int.ediv_nonneg hw0 (Int.le_of_lt hs0)
  have hg1 : g < p := by
    rcases Int.lt_or_le g p with h | h
    · exact h
    · exfalso
      have : s * p ≤ s * g := Int.mul_le_mul_of_nonneg_left h (Int.le_of_lt hs0)
      have e : s * p = BB := by rw [Int.mul_comm]; exact hps
      omega
  rw [← ht, ← hu, ← hw, ← hg]
  have hq : (a * p) / (C * BB) = u * p + g := by
    have hCB : 0 < C * BB := Int.mul_pos hC hB
    have hrem : a * p = (C * BB) * (u * p + g) + ((f * C + r) * p) := by
      rw [ha, htt, hww, ← hps]
      grind
    have h0 : 0 ≤ (f * C + r) * p := Int.mul_nonneg (by have := Int.mul_nonneg hf0 (Int.le_of_lt hC); omega) (Int.le_of_lt hp0)
    have h1 : (f * C + r) * p < C * BB := by
      have k1 : f * C + r < s * C := by
        have : (f + 1) * C ≤ s * C := Int.mul_le_mul_of_nonneg_right (by omega) (Int.le_of_lt hC)
        have e : (f + 1) * C = f * C + C := by grind
        omega
      have k2 : (f * C + r) * p < s * C * p := Int.mul_lt_mul_of_pos_right k1 hp0
      have e : s * C * p = C * BB := by rw [← hps]; grind
      omega
    rw [hrem, Int.mul_add_ediv_left _ _ (by omega), Int.ediv_eq_zero_of_lt h0 h1]
    omega
  rw [hq]
  have hd : (u * p) % BB = (u % BB * p) % BB := by
    have := Int.mul_emod (u % BB) p BB
    rw [Int.emod_emod_of_dvd _ (Int.dvd_refl _)] at this
    rw [this]
    exact Int.mul_emod u p BB
  obtain ⟨z, hz⟩ : ∃ z, z = u % s := ⟨_, rfl⟩
  have hz0 : 0 ≤ z := hz ▸ Int.emod_nonneg _ (by omega)
  have hz1 : z < s := hz ▸ Int.emod_lt_of_pos _ hs0
  have hup : u * p = BB * (u / s) + z * p := by
    have := Int.mul_ediv_add_emod u s
    rw [← hz] at this
    rw [← hps]
    have e : u * p = (s * (u / s) + z) * p := by rw [this]
    rw [e]
    grind
  have hzp : z * p + p ≤ BB := by
    have : (z + 1) * p ≤ s * p := Int.mul_le_mul_of_nonneg_right (by omega) (Int.le_of_lt hp0)
    have e : (z + 1) * p = z * p + p := by grind
    have e2 : s * p = BB := by rw [Int.mul_comm]; exact hps
    omega
  have hzp0 : 0 ≤ z * p := Int.mul_nonneg hz0 (Int.le_of_lt hp0)
  have h3 : (u * p) % BB = z * p := by rw [hup, Int.add_comm, Int.add_mul_emod_self_left, Int.emod_eq_of_lt hzp0 (by omega)]
  have h4 : (u * p + g) % BB = z * p + g := by rw [hup, show BB * (u / s) + z * p + g = (z * p + g) + BB * (u / s) by omega, Int.add_mul_emod_self_left, Int.emod_eq_of_lt (by omega) (by omega)]
  rw [h4, ← hd, h3]
def sh (n : Int) : Nat := (n % 64).toNat
theorem sh_lt {n : Int} : sh n < 64 := by unfold sh; omega
def lo (x n : Int) : Int := IntKind.u64.wrap (x * 2 ^ (min (n.tmod 64).toNat 64))
def hi (x n : Int) : Int := x.fdiv (2 ^ (min (IntKind.i64.wrap (64 - (n.tmod 64))).toNat 64))
def orW (x y n : Int) : Int := IntKind.u64.wrap ↑(BitVec.ofInt 64 (lo x n) ||| BitVec.ofInt 64 (hi y n)).toNat
theorem lo_eq {x n : Int} (hn : 0 ≤ n) : lo x n = (x * 2 ^ sh n) % BB := by
  unfold lo
  rw [Int.tmod_eq_emod_of_nonneg hn, wrap_u64, show min (n % 64).toNat 64 = sh n from Nat.min_eq_left (by omega)]
theorem hi_eq {x n : Int} (hn : 0 ≤ n) : hi x n = x / 2 ^ (64 - sh n) := by
  unfold hi
  rw [Int.tmod_eq_emod_of_nonneg hn, wrap_i64_in (by omega) (by omega), fd]
  congr 2
  unfold sh
  omega
theorem or_word {x y n : Int} (hn : 0 ≤ n) (hy : 0 ≤ y ∧ y < BB) : orW x y n = (x * 2 ^ sh n) % BB + y / 2 ^ (64 - sh n) := by
  have hm : sh n < 64 := sh_lt
  have hps : (2 : Int) ^ sh n * 2 ^ (64 - sh n) = BB := by
    rw [← Int.pow_add, show sh n + (64 - sh n) = 64 by omega]
    decide
  have hp0 : (0 : Int) < 2 ^ sh n := Int.pow_pos (by decide)
  have hs0 : (0 : Int) < 2 ^ (64 - sh n) := Int.pow_pos (by decide)
  have hB : (0 : Int) < BB := by decide
  unfold orW
  rw [lo_eq hn, hi_eq hn]
  refine or_add (m := sh n) (x := x % 2 ^ (64 - sh n)) ?_ (Int.emod_nonneg _ (by omega)) (Int.emod_lt_of_pos _ hB) (Int.ediv_nonneg hy.1 (Int.le_of_lt hs0)) ?_ (by omega)
  · rw [← hps, Int.mul_comm x, Int.mul_emod_mul_of_pos _ _ hp0, Int.mul_comm]
  · exact Int.ediv_lt_of_lt_mul hs0 (by rw [hps]; exact hy.2)
theorem v0 (a : Int) {n : Int} (hn : 0 ≤ n) : lo (w0 a) n = w0 (a * 2 ^ sh n) := by
  rw [lo_eq hn]
  unfold w0
  have := Int.mul_emod (a % BB) (2 ^ sh n) BB
  rw [Int.emod_emod_of_dvd _ (Int.dvd_refl _), ← Int.mul_emod] at this
  exact this
theorem v1 (a : Int) {n : Int} (hn : 0 ≤ n) : orW (w1 a) (w0 a) n = w1 (a * 2 ^ sh n) := by
  rw [or_word hn (w0_range a)]
  have := sh_word a 1 (sh n) sh_lt (by decide)
  rw [Int.one_mul, Int.ediv_one] at this
  exact this.symm
theorem v2 (a : Int) {n : Int} (hn : 0 ≤ n) : orW (w2 a) (w1 a) n = w2 (a * 2 ^ sh n) := by
  rw [or_word hn (w1_range a)]
  exact (sh_word a BB (sh n) sh_lt (by decide)).symm
theorem v3 (a : Int) {n : Int} (hn : 0 ≤ n) : orW (w3 a) (w2 a) n = w3 (a * 2 ^ sh n) := by
  rw [or_word hn (w2_range a)]
  exact (sh_word a B2 (sh n) sh_lt (by decide)).symm
end Go.Qt
/-
  Contracts of package quot, fifth part: shift. Printed by quotE.py.
-/
namespace Go.Qt
open Go Go.RowKit Go.Sx Go.Nm Go.Wd Go.Proofs
end Go.Qt
/-
  Contracts of package quot, sixth part: the floor by doubling: plain arithmetic.
-/
namespace Go.Qt
open Go Go.RowKit Go.Sx Go.Nm Go.Wd Go.Proofs
theorem pow2_pos (k : Nat) : (0 : Int) < 2 ^ k := Int.pow_pos (by decide)
theorem pow2_le {m n : Nat} (h : m ≤ n) : (2 : Int) ^ m ≤ 2 ^ n := by
  have := Nat.pow_le_pow_right (n := 2) (by decide) h
  have h2 : ((2 ^ m : Nat) : Int) ≤ ((2 ^ n : Nat) : Int) := by exact_mod_cast this
  simpa using h2
theorem bl_lt {x : Int} (h : 0 ≤ x) : x < 2 ^ (bl x).toNat := by
  unfold bl
  by_cases e : x = 0
  · rw [if_pos e, e]; decide
  · rw [if_neg e]
    obtain ⟨n, rfl⟩ : ∃ n : Nat, x = n := ⟨x.toNat, by omega⟩
    have h1 : (((n : Int).toNat.log2 : Int) + 1).toNat = n.log2 + 1 := by rw [Int.toNat_natCast]; omega
    rw [h1]
    have := Nat.lt_log2_self (n := n)
    have h2 : ((n : Nat) : Int) < ((2 ^ (n.log2 + 1) : Nat) : Int) := by exact_mod_cast this
    simpa using h2
theorem bl_ge {x : Int} (h : 0 < x) : 1 ≤ bl x ∧ 2 ^ (bl x - 1).toNat ≤ x := by
  unfold bl
  rw [if_neg (by omega)]
  obtain ⟨n, rfl⟩ : ∃ n : Nat, x = n := ⟨x.toNat, by omega⟩
  refine ⟨by omega, ?_⟩
  have h1 : (((n : Int).toNat.log2 : Int) + 1 - 1).toNat = n.log2 := by rw [Int.toNat_natCast]; omega
  rw [h1]
  have := Nat.log2_self_le (n := n) (by omega)
  have h2 : ((2 ^ n.log2 : Nat) : Int) ≤ ((n : Nat) : Int) := by exact_mod_cast this
  simpa using h2
theorem bl_255 {x : Int} (h : 0 ≤ x) (h2 : x < HH) : bl x ≤ 255 := bl_le 255 h (by simpa [HH] using h2)
theorem shifted {a b n : Int} (ha : 0 ≤ a) (ha2 : a < HH) (hb : 0 < b) (hn : 0 ≤ n) (hn2 : n ≤ bl a - bl b) : b * 2 ^ n.toNat < HH := by
  have h1 := bl_lt (Int.le_of_lt hb)
  have h2 := bl_255 ha ha2
  have h4 := Int.mul_lt_mul_of_pos_right h1 (pow2_pos n.toNat)
  rw [← Int.pow_add] at h4
  have h5 : (2 : Int) ^ ((bl b).toNat + n.toNat) ≤ 2 ^ 255 := pow2_le (by have := (bl_ge hb).1; omega)
  have h6 : (2 : Int) ^ 255 = HH := by decide
  omega
end Go.Qt
/-
  Contracts of package quot, seventh part: the floor by doubling: the loop. Printed by quotG.py.
-/
namespace Go.Qt
open Go Go.RowKit Go.Sx Go.Nm Go.Wd Go.Proofs
def n0 (a b : Int) : Int := IntKind.i64.wrap (bl (tI (W a) % MM) - (bl (tI (W b) % MM)))
def At (a b n x q : Int) : Prop := x = a % (b * 2 ^ (n + 1).toNat) ∧ q = a / (b * 2 ^ (n + 1).toNat) * 2 ^ (n + 1).toNat
section
variable {a b n x q : Int} (ha : 0 ≤ a ∧ a < HH) (hb : 0 < b ∧ b < HH) (hn : 0 ≤ n ∧ n ≤ bl a - bl b) (hi : At a b n x q)
include ha hb hn hi
end
def plainV : List Value → Value
  | [x, y] => .tuple #[W (tI x / tI y), W (tI x % tI y)]
  | _ => undef
theorem isW_in {x : Value} (h : IsW x) : x = W (tI x) ∧ InR (tI x) := by
  obtain ⟨n, rfl⟩ := h
  rw [tI_W]
  exact ⟨(W_congr (bm_mod n)).symm, bm_range n⟩
end Go.Qt
