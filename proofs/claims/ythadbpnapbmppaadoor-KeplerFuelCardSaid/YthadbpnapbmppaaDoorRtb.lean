/-
  Contracts of package root, first part: most, floor. Printed by rtB.py.
-/
import Derived.Test.YthadbpnapbmppaaDoorSta
set_option maxRecDepth 100000
namespace Go.Rt
open Go Go.RowKit Go.Sx Go.Nm Go.Wd Go.Qt Go.Proofs

/-! ### most -/
def mostV : List Value → Value
  | [x] => .int .i64 (bl (tI x % MM) / 2)
  | _ => undef
theorem half {w b : Int} (h : Value.int .i64 w = .int .i64 b) (h0 : 0 ≤ b) (h1 : b ≤ 256) : Value.int .i64 (IntKind.i64.wrap (w.tdiv 2)) = .int .i64 (b / 2) := by
  have e : w = b := by injection h
  rw [e, Int.tdiv_eq_ediv_of_nonneg h0, wrap_i64_in (by omega) (by omega)]
theorem bl_all (a : Int) : 0 ≤ bl (tI (W a) % MM) ∧ bl (tI (W a) % MM) ≤ 256 := by
  have e : (2 : Int) ^ 256 = MM := by decide
  have h0 := Int.emod_nonneg (tI (W a)) (show MM ≠ 0 by decide)
  have h1 := Int.emod_lt_of_pos (tI (W a)) (show 0 < MM by decide)
  exact ⟨bl_nonneg _, bl_le 256 h0 (by rw [e]; exact h1)⟩
/-! ### floor -/
def bitV0 (i : Int) : Value := .agg #[.int .u64 (IntKind.u64.wrap (1 * 2 ^ (min (i.tmod 64).toNat 64))), .int .u64 0, .int .u64 0, .int .u64 0]
def bitV1 (i : Int) : Value := .agg #[.int .u64 0, .int .u64 (IntKind.u64.wrap (1 * 2 ^ (min (i.tmod 64).toNat 64))), .int .u64 0, .int .u64 0]
def bitV2 (i : Int) : Value := .agg #[.int .u64 0, .int .u64 0, .int .u64 (IntKind.u64.wrap (1 * 2 ^ (min (i.tmod 64).toNat 64))), .int .u64 0]
def bitV3 (i : Int) : Value := .agg #[.int .u64 0, .int .u64 0, .int .u64 0, .int .u64 (IntKind.u64.wrap (1 * 2 ^ (min (i.tmod 64).toNat 64)))]
theorem sh_val {i : Int} (h : 0 ≤ i) : IntKind.u64.wrap (1 * 2 ^ (min (i.tmod 64).toNat 64)) = 2 ^ (i % 64).toNat ∧ (0 : Int) ≤ 2 ^ (i % 64).toNat ∧ (2 : Int) ^ (i % 64).toNat < BB := by
  have h1 : (i % 64).toNat < 64 := by omega
  have h2 : (2 : Int) ^ (i % 64).toNat < 2 ^ 64 := by
    have : (2 : Int) ^ ((i % 64).toNat + 1) ≤ 2 ^ 64 := pow2_le (by omega)
    have := pow2_pos (i % 64).toNat
    rw [Int.pow_succ] at *
    omega
  have h3 := pow2_pos (i % 64).toNat
  have e : (2 : Int) ^ 64 = BB := by decide
  rw [e] at h2
  rw [Int.tmod_eq_emod_of_nonneg h, Nat.min_eq_left (by omega), Int.one_mul]
  refine ⟨?_, Int.le_of_lt h3, h2⟩
  rw [wrap_u64]; exact Int.emod_eq_of_lt (Int.le_of_lt h3) h2
theorem bitV0_W {i : Int} (h : 0 ≤ i) (hj : i / 64 = 0) : bitV0 i = W (2 ^ i.toNat) := by
  obtain ⟨e, h1, h2⟩ := sh_val h
  have p := bit_pow h hj
  unfold bitV0
  rw [e]
  refine W_of h1 h2 (Int.le_refl 0) (by decide) (Int.le_refl 0) (by decide) (Int.le_refl 0) (by decide) ?_
  rw [p]
  generalize (2 : Int) ^ (i % 64).toNat = z
  have k : ((2 : Int) ^ 64) ^ (0 : Int).toNat = 1 := by decide
  rw [k]
  congr 1
  omega
theorem bitV1_W {i : Int} (h : 0 ≤ i) (hj : i / 64 = 1) : bitV1 i = W (2 ^ i.toNat) := by
  obtain ⟨e, h1, h2⟩ := sh_val h
  have p := bit_pow h hj
  unfold bitV1
  rw [e]
  refine W_of (Int.le_refl 0) (by decide) h1 h2 (Int.le_refl 0) (by decide) (Int.le_refl 0) (by decide) ?_
  rw [p]
  generalize (2 : Int) ^ (i % 64).toNat = z
  have k : ((2 : Int) ^ 64) ^ (1 : Int).toNat = BB := by decide
  rw [k]
  congr 1
  omega
theorem bitV2_W {i : Int} (h : 0 ≤ i) (hj : i / 64 = 2) : bitV2 i = W (2 ^ i.toNat) := by
  obtain ⟨e, h1, h2⟩ := sh_val h
  have p := bit_pow h hj
  unfold bitV2
  rw [e]
  refine W_of (Int.le_refl 0) (by decide) (Int.le_refl 0) (by decide) h1 h2 (Int.le_refl 0) (by decide) ?_
  rw [p]
  generalize (2 : Int) ^ (i % 64).toNat = z
  have k : ((2 : Int) ^ 64) ^ (2 : Int).toNat = B2 := by decide
  rw [k]
  congr 1
  omega
theorem bitV3_W {i : Int} (h : 0 ≤ i) (hj : i / 64 = 3) : bitV3 i = W (2 ^ i.toNat) := by
  obtain ⟨e, h1, h2⟩ := sh_val h
  have p := bit_pow h hj
  unfold bitV3
  rw [e]
  refine W_of (Int.le_refl 0) (by decide) (Int.le_refl 0) (by decide) (Int.le_refl 0) (by decide) h1 h2 ?_
  rw [p]
  generalize (2 : Int) ^ (i % 64).toNat = z
  have k : ((2 : Int) ^ 64) ^ (3 : Int).toNat = B3 := by decide
  rw [k]
  congr 1
  omega
noncomputable def RF : Env P := ⟨⟨[] ++ wideC, []⟩, [], 10, []⟩
end Go.Rt

/-
  Contracts of package root, second part: floor's loop. Printed by rtC.py.
-/
namespace Go.Rt
open Go Go.RowKit Go.Sx Go.Nm Go.Wd Go.Qt Go.Proofs

def fInv (a : Int) (g : Int × Int) : Prop := -1 ≤ g.1 ∧ g.1 ≤ 127 ∧ 0 ≤ g.2 ∧ g.2 * g.2 ≤ a ∧ a < (g.2 + 2 ^ (g.1 + 1).toNat) * (g.2 + 2 ^ (g.1 + 1).toNat)
theorem root_small {a r : Int} (_ : 0 ≤ r) (h : r * r ≤ a) (ha : a < HH) : r < 2 ^ 128 := by
  rcases Int.lt_or_le r (2 ^ 128) with c | c
  · exact c
  · exfalso
    have := sq_le (show (0 : Int) ≤ 2 ^ 128 by decide) c
    have e : (2 : Int) ^ 128 * 2 ^ 128 = 2 * HH := by decide
    have : (0 : Int) < HH := by decide
    omega
theorem step_in {a r p : Int} (ha : 0 ≤ a ∧ a < HH) (r0 : 0 ≤ r) (rs : r < 2 ^ 128) (p0 : 0 < p) (p1 : p ≤ 2 ^ 127) : InR r ∧ InR p ∧ InR (r + p) ∧ InR a := by
  have k127 : (2 : Int) ^ 127 = 170141183460469231731687303715884105728 := by decide
  have k128 : (2 : Int) ^ 128 = 340282366920938463463374607431768211456 := by decide
  rw [k127] at p1
  rw [k128] at rs
  simp only [InR, HH] at *
  omega
def rtP : List Value → Prop
  | [x] => IsW x ∧ 0 ≤ tI x
  | _ => False
def rtV : List Value → Value
  | [x] => W (rt (tI x))
  | _ => undef
end Go.Rt

/-
  Contracts of package root, third part: Floor, Ceil. Printed by rtD.py.
-/
namespace Go.Rt
open Go Go.RowKit Go.Sx Go.Nm Go.Wd Go.Qt Go.Proofs

noncomputable def RE : Env P := ⟨⟨wideC, []⟩, [], 10, []⟩
noncomputable def RG : Env P := ⟨⟨[] ++ wideC, []⟩, [], 10, []⟩
def rootE (a : Int) : Int := if 0 ≤ a then 0 else 2
def rfV : List Value → Value
  | [x] => .tuple #[W (if 0 ≤ tI x then rt (tI x) else 0), .int .i64 (rootE (tI x))]
  | _ => undef
def rcV : List Value → Value
  | [x] => .tuple #[W (if 0 ≤ tI x then rc (tI x) else 0), .int .i64 (rootE (tI x))]
  | _ => undef
theorem rtP_W {a : Int} (ha : InR a) (h : 0 ≤ a) : rtP [W a] := ⟨⟨_, rfl⟩, by rw [tI_in ha]; exact h⟩
theorem sgn_f {a : Int} (h : 0 ≤ a) : (!(decide (cmp3 a 0 ≥ 0))) = false := by
  have : cmp3 a 0 ≥ 0 := by unfold cmp3; omega
  rw [decide_eq_true this]; rfl
theorem sgn_t {a : Int} (h : ¬ 0 ≤ a) : (!(decide (cmp3 a 0 ≥ 0))) = true := by
  have : ¬ cmp3 a 0 ≥ 0 := by unfold cmp3; omega
  rw [decide_eq_false this]; rfl
theorem rc_facts {a : Int} (h0 : 0 ≤ a) (rx : InR a) : InR (rt a) ∧ InR (rt a * rt a) ∧ InR (rt a + 1) := by
  obtain ⟨g0, g1, g2⟩ := rt_is h0 rx.2
  have r := rt_range h0 rx.2
  have k128 : (2 : Int) ^ 128 = 340282366920938463463374607431768211456 := by decide
  rw [k128] at r
  have := mul_self_nonneg' (rt a)
  generalize rt a * rt a = z at *
  simp only [InR, HH] at *
  omega
noncomputable def rootC : List (Ctr P) := []
end Go.Rt
