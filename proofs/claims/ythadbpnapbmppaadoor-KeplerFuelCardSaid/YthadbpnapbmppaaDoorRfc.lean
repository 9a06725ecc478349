/-
  Contracts of gyreref03, first part: plain. Printed by ref3.py.
-/
import Derived.Test.YthadbpnapbmppaaDoorQtb
set_option maxRecDepth 100000
namespace Go.R3
open Go Go.RowKit Go.Sx Go.Nm Go.Wd Go.Qt Go.Proofs

noncomputable def Z0 : Env P := ⟨⟨[], []⟩, [], 10, []⟩
def oneV : List Value → Value := fun _ => W 1
def leastV : List Value → Value := fun _ => W (-57896044618658097711785492504343953926634992332820282019728792003956564819968)
def two (f : Int → Int → Int) : List Value → Value
  | [x, y] => W (f (tI x) (tI y))
  | _ => undef
def negW : List Value → Value
  | [x] => W (-tI x)
  | _ => undef
noncomputable def Z1 : Env P := ⟨⟨[], []⟩, [], 10, []⟩

/-! ### plain -/
def s1 (a b : Int) (n : Nat) : St := ⟨[(6, .row 900), (2, .ptr 0 0), (4, .ptr 2 0), (5, .ptr 3 0)], [(0, (.whole (W a), 80)), (2, (.whole (W 0), 80)), (3, (.whole (W 0), 80))], [], [900, 5, 3, 2, 1, 0], [(900, some ⟨80, 4, n, fun i => W (b * 2 ^ i), true⟩)]⟩
def s2 (b : Int) (n : Nat) (i x q : Int) : St := ⟨[(10, .v (.int .i64 i)), (9, .ptr 7 0), (6, .row 901), (2, .ptr 0 0), (4, .ptr 2 0), (5, .ptr 3 0)], [(7, (.whole (W q), 80)), (0, (.whole (W x), 80)), (2, (.whole (W 0), 80)), (3, (.whole (W 0), 80))], [], [901, 7, 900, 5, 3, 2, 1, 0], [(901, some ⟨80, 4, n, fun i => W (b * 2 ^ i), true⟩)]⟩
def f2 (b : Int) (n : Nat) (x q : Int) : St := ⟨[(9, .ptr 7 0), (6, .row 901), (2, .ptr 0 0), (4, .ptr 2 0), (5, .ptr 3 0)], [(7, (.whole (W q), 80)), (0, (.whole (W x), 80)), (2, (.whole (W 0), 80)), (3, (.whole (W 0), 80))], [], [901, 7, 900, 5, 3, 2, 1, 0], [(901, some ⟨80, 4, n, fun i => W (b * 2 ^ i), true⟩)]⟩
/-- How many there are: b, doubled as often as it is not above a. -/
def K (a b : Int) : Nat := max 1 (bl (a / b)).toNat
section
variable {a b : Int} (ha : 0 ≤ a ∧ a < HH) (hb : 0 < b ∧ b < HH)
def I1 (a b : Int) (n : Nat) : Prop := 1 ≤ n ∧ (n = 1 ∨ b * 2 ^ (n - 1) ≤ a)
include ha hb
theorem i1_facts {n : Nat} (h : I1 a b n) : n ≤ 256 ∧ InR (b * 2 ^ (n - 1)) ∧ b * 2 ^ (n - 1) + b * 2 ^ (n - 1) = b * 2 ^ n ∧ 0 < b * 2 ^ (n - 1) := by
  obtain ⟨h1, h2⟩ := h
  have hp := pow2_pos (n - 1)
  have e : b * 2 ^ (n - 1) + b * 2 ^ (n - 1) = b * 2 ^ n := by
    obtain ⟨m, rfl⟩ : ∃ m, n = m + 1 := ⟨n - 1, by omega⟩
    rw [Nat.add_sub_cancel, Int.pow_succ, ← Int.mul_assoc]; omega
  have h3 : 0 < b * 2 ^ (n - 1) := Int.mul_pos hb.1 hp
  refine ⟨?_, ?_, e, h3⟩
  · rcases h2 with h2 | h2
    · omega
    · have h4 : (2 : Int) ^ (n - 1) ≤ b * 2 ^ (n - 1) := by
        have := Int.mul_le_mul_of_nonneg_right (show (1 : Int) ≤ b by omega) (Int.le_of_lt hp)
        omega
      by_cases h5 : 255 ≤ n - 1
      · have h6 : (2 : Int) ^ 255 ≤ 2 ^ (n - 1) := pow2_le h5
        have h7 : (2 : Int) ^ 255 = HH := by decide
        omega
      · omega
  · rcases h2 with h2 | h2
    · subst h2
      simp only [Nat.sub_self, Int.pow_zero, Int.mul_one]
      unfold InR; omega
    · unfold InR; omega
theorem i1_end {n : Nat} (h : I1 a b n) (h2 : a < b * 2 ^ n) : n = K a b := by
  obtain ⟨h1, h3⟩ := h
  unfold K
  have hp := pow2_pos n
  have h4 : a / b < 2 ^ n := Int.ediv_lt_of_lt_mul hb.1 (by rw [Int.mul_comm]; exact h2)
  have h0 : 0 ≤ a / b := Int.ediv_nonneg ha.1 (by omega)
  rcases h3 with h3 | h3
  · subst h3
    have := bl_le 1 h0 h4
    omega
  · have h5 : 2 ^ (n - 1) ≤ a / b := (Int.le_ediv_iff_mul_le hb.1).2 (by rw [Int.mul_comm]; exact h3)
    have h6 := bl_le n h0 h4
    have h7 := bl_lt h0
    have h8 : (n - 1 : Nat) < (bl (a / b)).toNat := by
      rcases Nat.lt_or_ge (n - 1) (bl (a / b)).toNat with h | h
      · exact h
      · have := pow2_le h; omega
    omega
theorem k_facts : I1 a b (K a b) ∧ a < b * 2 ^ K a b := by
  have h0 : 0 ≤ a / b := Int.ediv_nonneg ha.1 (by omega)
  have e := Int.mul_ediv_add_emod a b
  have r1 := Int.emod_lt_of_pos a hb.1
  have h7 := bl_lt h0
  have hlt : a / b < 2 ^ K a b := by
    have : (2 : Int) ^ (bl (a / b)).toNat ≤ 2 ^ K a b := pow2_le (by unfold K; omega)
    omega
  have hle : a / b + 1 ≤ 2 ^ K a b := by omega
  have := Int.mul_le_mul_of_nonneg_left hle (Int.le_of_lt hb.1)
  rw [Int.mul_add, Int.mul_one] at this
  refine ⟨⟨by unfold K; omega, ?_⟩, by omega⟩
  by_cases h1 : K a b = 1
  · exact .inl h1
  · right
    have h2 : K a b = (bl (a / b)).toNat := by unfold K at *; omega
    have hpos : 0 < a / b := by
      rcases Int.lt_or_eq_of_le h0 with h | h
      · exact h
      · exfalso
        rw [← h] at h2
        have : bl 0 = 0 := rfl
        rw [this] at h2
        unfold K at h1 h2
        omega
    have h3 := (bl_ge hpos).2
    have h4 : (2 : Int) ^ (K a b - 1) ≤ a / b := by
      rw [h2, show (bl (a / b)).toNat - 1 = (bl (a / b) - 1).toNat by omega]
      exact h3
    have h5 := Int.mul_le_mul_of_nonneg_left h4 (Int.le_of_lt hb.1)
    have r0 := Int.emod_nonneg a (b := b) (by omega)
    omega
end

def At2 (a b i x q : Int) : Prop := x = a % (b * 2 ^ (i + 1).toNat) ∧ q = a / (b * 2 ^ (i + 1).toNat)
def I2 (a b : Int) (n : Nat) (g : Int × Int × Int) : Prop := -1 ≤ g.1 ∧ g.1 < n ∧ At2 a b g.1 g.2.1 g.2.2
section
variable {a b : Int} (ha : 0 ≤ a ∧ a < HH) (hb : 0 < b ∧ b < HH)
include ha hb
end
theorem row1 (b : Int) : ∀ j, j < 1 → (Value.agg ((([.int .u64 (w0 b), .int .u64 (w1 b), .int .u64 (w2 b), .int .u64 (w3 b)] : List Value).drop (0 + j * 4)).take 4).toArray) = W (b * 2 ^ j) := by
  intro j hj
  obtain rfl : j = 0 := by omega
  rw [Int.pow_zero, Int.mul_one]
  rfl
end Go.R3

/-
  Contracts of gyreref03, second part: above, floor, Floor, Rest, Ceil, Near, Ints. Printed by ref3b.py.
-/
namespace Go.R3
open Go Go.RowKit Go.Sx Go.Nm Go.Wd Go.Qt Go.Proofs

noncomputable def Y1 : Env P := ⟨⟨[], []⟩, [], 10, []⟩
def abP : List Value → Prop
  | [x, y] => IsW x ∧ IsW y ∧ Sm (tI x) ∧ Sm (tI y) ∧ 0 < tI y
  | _ => False
theorem ge_t {x : Int} (h : 0 ≤ x) : (decide (cmp3 x 0 ≥ 0)) = true := decide_eq_true (by unfold cmp3; omega)
theorem ge_f {x : Int} (h : x < 0) : (decide (cmp3 x 0 ≥ 0)) = false := decide_eq_false (by unfold cmp3; omega)
theorem gt_t {x : Int} (h : 0 < x) : (decide (cmp3 x 0 > 0)) = true := decide_eq_true (by unfold cmp3; omega)
theorem gt_f {x : Int} (h : x < 0) : (decide (cmp3 x 0 > 0)) = false := decide_eq_false (by unfold cmp3; omega)
noncomputable def Y2 : Env P := ⟨⟨[], []⟩, [], 10, []⟩
theorem ab_at {a b : Int} (ha : Sm a) (hb : Sm b) (h : 0 < b) : abP [W a, W b] := ⟨⟨_, rfl⟩, ⟨_, rfl⟩, by rw [tI_in (inR_of ha)]; exact ha, by rw [tI_in (inR_of hb)]; exact hb, by rw [tI_in (inR_of hb)]; exact h⟩
def flV : List Value → Value
  | [x, y] => .tuple #[W (qv fq (tI x) (tI y)), W (qv fr (tI x) (tI y)), .int .i64 (qe (tI x) (tI y))]
  | _ => undef
noncomputable def Y3 : Env P := ⟨⟨[], []⟩, [], 10, []⟩
theorem nc_pos {a b : Int} (h : 0 < b) : nc a b = cmp3 (fr a b) (b - fr a b) := ncp h
theorem nc_neg {a b : Int} (h : b < 0) : nc a b = cmp3 (-fr a b) (-(b - fr a b)) := by
  unfold nc
  have e1 : cmp3 (-fr a b) (-(b - fr a b)) = -cmp3 (fr a b) (b - fr a b) := by unfold cmp3; omega
  have e2 : cmp3 b 0 = -1 := by unfold cmp3; omega
  rw [e1, e2]
  omega
noncomputable def Y4 : Env P := ⟨⟨[], []⟩, [], 10, []⟩
noncomputable def ref3C : List (Ctr P) := []
end Go.R3
