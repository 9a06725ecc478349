/-
  Contracts of package wide's functions, third part: products (printed by gen_mul.py).
-/
import Derived.Test.YtjfcndiodbaejaaDoorWideB
set_option maxRecDepth 100000
namespace Go.Wd
open Go Go.RowKit Go.Sx Go.Nm Go.Proofs

/-! ### math/bits.Mul64 -/
def lo32 (x : Int) : Int := IntKind.u64.wrap ↑(BitVec.ofInt 64 x &&& BitVec.ofInt 64 4294967295).toNat
def hi32 (x : Int) : Int := x.fdiv (2 ^ 32)
def mulT (x y : Int) : Int := IntKind.u64.wrap (IntKind.u64.wrap (hi32 x * lo32 y) + hi32 (IntKind.u64.wrap (lo32 x * lo32 y)))
def mulHi (x y : Int) : Int := IntKind.u64.wrap (IntKind.u64.wrap (IntKind.u64.wrap (hi32 x * hi32 y) + hi32 (mulT x y)) + hi32 (IntKind.u64.wrap (lo32 (mulT x y) + IntKind.u64.wrap (lo32 x * hi32 y))))

def mul64P : List Value → Prop
  | [.int .u64 x, .int .u64 y] => (0 ≤ x ∧ x < BB) ∧ 0 ≤ y ∧ y < BB
  | _ => False
def mul64V : List Value → Value
  | [.int _ x, .int _ y] => .tuple #[.int .u64 (x * y / BB), .int .u64 (x * y % BB)]
  | _ => undef

theorem mul64_run (x y : Int) : runF P E0 1 123 [.int .u64 x, .int .u64 y] [] = some (.tuple #[.int .u64 (mulHi x y), .int .u64 (IntKind.u64.wrap (x * y))], []) := by kernel_rfl

theorem lo32_eq (x : Int) : lo32 x = x % 4294967296 := by
  unfold lo32
  rw [wrap_u64, BitVec.toNat_and, BitVec.toNat_ofInt, BitVec.toNat_ofInt]
  have e : ((4294967295 : Int) % ((2 ^ 64 : Nat) : Int)).toNat = 2 ^ 32 - 1 := by decide
  rw [e, Nat.and_two_pow_sub_one_eq_mod]
  simp only [BB] at *
  omega

theorem hi32_eq (x : Int) : hi32 x = x / 4294967296 := by
  unfold hi32
  rw [Int.fdiv_eq_ediv_of_nonneg _ (by decide)]
  rfl

theorem prod_split (x1 x0 y1 y0 : Int) : (x1 * 4294967296 + x0) * (y1 * 4294967296 + y0) = (x1 * y1) * 18446744073709551616 + (x1 * y0 + x0 * y1) * 4294967296 + x0 * y0 := by
  grind

theorem mul_bd {x y m k : Int} (h0 : 0 ≤ x) (h1 : x ≤ m) (h2 : 0 ≤ y) (h3 : y ≤ k) : 0 ≤ x * y ∧ x * y ≤ m * k :=
  ⟨Int.mul_nonneg h0 h2, Int.mul_le_mul h1 h3 h2 (Int.le_trans h0 h1)⟩

theorem mulHi_eq {x y : Int} (hx : 0 ≤ x) (hx2 : x < BB) (hy : 0 ≤ y) (hy2 : y < BB) : mulHi x y = x * y / BB ∧ IntKind.u64.wrap (x * y) = x * y % BB := by
  refine ⟨?_, wrap_u64 _⟩
  obtain ⟨x1, hx1⟩ : ∃ t, t = x / 4294967296 := ⟨_, rfl⟩
  obtain ⟨x0, hx0⟩ : ∃ t, t = x % 4294967296 := ⟨_, rfl⟩
  obtain ⟨y1, hy1⟩ : ∃ t, t = y / 4294967296 := ⟨_, rfl⟩
  obtain ⟨y0, hy0⟩ : ∃ t, t = y % 4294967296 := ⟨_, rfl⟩
  have bx1 : 0 ≤ x1 ∧ x1 ≤ 4294967295 := by simp only [BB] at *; omega
  have bx0 : 0 ≤ x0 ∧ x0 ≤ 4294967295 := by omega
  have by1 : 0 ≤ y1 ∧ y1 ≤ 4294967295 := by simp only [BB] at *; omega
  have by0 : 0 ≤ y0 ∧ y0 ≤ 4294967295 := by omega
  have p11 := mul_bd bx1.1 bx1.2 by1.1 by1.2
  have p10 := mul_bd bx1.1 bx1.2 by0.1 by0.2
  have p01 := mul_bd bx0.1 bx0.2 by1.1 by1.2
  have p00 := mul_bd bx0.1 bx0.2 by0.1 by0.2
  have hsum : x * y = (x1 * y1) * 18446744073709551616 + (x1 * y0 + x0 * y1) * 4294967296 + x0 * y0 := by
    rw [← prod_split, show x1 * 4294967296 + x0 = x from by omega, show y1 * 4294967296 + y0 = y from by omega]
  have eT : mulT x y = x1 * y0 + x0 * y0 / 4294967296 := by
    unfold mulT
    rw [lo32_eq, lo32_eq, hi32_eq, hi32_eq, wrap_u64, wrap_u64, wrap_u64, ← hx1, ← hx0, ← hy0]
    generalize x1 * y0 = q at *
    generalize x0 * y0 = r at *
    simp only [BB] at *
    omega
  unfold mulHi
  rw [eT, lo32_eq x, hi32_eq y, hi32_eq x, hi32_eq, hi32_eq, lo32_eq, ← hx1, ← hx0, ← hy1, hsum]
  simp only [wrap_u64]
  generalize x1 * y1 = s at *
  generalize x1 * y0 = q at *
  generalize x0 * y1 = t at *
  generalize x0 * y0 = r at *
  simp only [BB] at *
  omega

theorem mul64_gives (args : List Value) (h : mul64P args) : Gives P 123 args.toArray (mul64V args) := by
  unfold mul64P at h
  split at h
  · rename_i x y
    obtain ⟨⟨h1, h2⟩, h3, h4⟩ := h
    refine gives_of_run mo (mul64_run x y) ps_nil ?_
    obtain ⟨e1, e2⟩ := mulHi_eq h1 h2 h3 h4
    rw [e1, e2]
    rfl
  · exact h.elim

noncomputable def mul64 : Ctr P := ⟨123, mul64P, mul64V, mul64_gives⟩

/-! ### Mul -/
def sn (q d c : Int) : Int := ((q % BB + d + 0) % BB + c + 0) % BB
def sc (q d c : Int) : Int := IntKind.u64.wrap (IntKind.u64.wrap (q / BB + (q % BB + d + 0) / BB) + ((q % BB + d + 0) % BB + c + 0) / BB)

theorem step_eq {x y d c : Int} (hx : 0 ≤ x ∧ x < BB) (hy : 0 ≤ y ∧ y < BB) (hd : 0 ≤ d ∧ d < BB) (hc : 0 ≤ c ∧ c < BB) :
    (0 ≤ sn (x * y) d c ∧ sn (x * y) d c < BB) ∧ (0 ≤ sc (x * y) d c ∧ sc (x * y) d c < BB) ∧ sn (x * y) d c + BB * sc (x * y) d c = x * y + d + c := by
  have hb := mul_bd (m := BB - 1) (k := BB - 1) hx.1 (by omega) hy.1 (by omega)
  unfold sn sc
  rw [wrap_u64, wrap_u64]
  generalize x * y = q at *
  simp only [BB] at *
  omega

def n00 (a b : Int) : Int := sn (w0 a * w0 b) (0) (0)
def c01 (a b : Int) : Int := sc (w0 a * w0 b) (0) (0)
def n01 (a b : Int) : Int := sn (w0 a * w1 b) (0) (c01 a b)
def c02 (a b : Int) : Int := sc (w0 a * w1 b) (0) (c01 a b)
def n02 (a b : Int) : Int := sn (w0 a * w2 b) (0) (c02 a b)
def c03 (a b : Int) : Int := sc (w0 a * w2 b) (0) (c02 a b)
def n03 (a b : Int) : Int := sn (w0 a * w3 b) (0) (c03 a b)
def c04 (a b : Int) : Int := sc (w0 a * w3 b) (0) (c03 a b)
def n10 (a b : Int) : Int := sn (w1 a * w0 b) (n01 a b) (0)
def c11 (a b : Int) : Int := sc (w1 a * w0 b) (n01 a b) (0)
def n11 (a b : Int) : Int := sn (w1 a * w1 b) (n02 a b) (c11 a b)
def c12 (a b : Int) : Int := sc (w1 a * w1 b) (n02 a b) (c11 a b)
def n12 (a b : Int) : Int := sn (w1 a * w2 b) (n03 a b) (c12 a b)
def c13 (a b : Int) : Int := sc (w1 a * w2 b) (n03 a b) (c12 a b)
def n13 (a b : Int) : Int := sn (w1 a * w3 b) (c04 a b) (c13 a b)
def c14 (a b : Int) : Int := sc (w1 a * w3 b) (c04 a b) (c13 a b)
def n20 (a b : Int) : Int := sn (w2 a * w0 b) (n11 a b) (0)
def c21 (a b : Int) : Int := sc (w2 a * w0 b) (n11 a b) (0)
def n21 (a b : Int) : Int := sn (w2 a * w1 b) (n12 a b) (c21 a b)
def c22 (a b : Int) : Int := sc (w2 a * w1 b) (n12 a b) (c21 a b)
def n22 (a b : Int) : Int := sn (w2 a * w2 b) (n13 a b) (c22 a b)
def c23 (a b : Int) : Int := sc (w2 a * w2 b) (n13 a b) (c22 a b)
def n23 (a b : Int) : Int := sn (w2 a * w3 b) (c14 a b) (c23 a b)
def c24 (a b : Int) : Int := sc (w2 a * w3 b) (c14 a b) (c23 a b)
def n30 (a b : Int) : Int := sn (w3 a * w0 b) (n21 a b) (0)
def c31 (a b : Int) : Int := sc (w3 a * w0 b) (n21 a b) (0)
def n31 (a b : Int) : Int := sn (w3 a * w1 b) (n22 a b) (c31 a b)
def c32 (a b : Int) : Int := sc (w3 a * w1 b) (n22 a b) (c31 a b)
def n32 (a b : Int) : Int := sn (w3 a * w2 b) (n23 a b) (c32 a b)
def c33 (a b : Int) : Int := sc (w3 a * w2 b) (n23 a b) (c32 a b)
def n33 (a b : Int) : Int := sn (w3 a * w3 b) (c24 a b) (c33 a b)
def c34 (a b : Int) : Int := sc (w3 a * w3 b) (c24 a b) (c33 a b)
def mulC (a b : Int) : Value := .agg #[.int .u64 (n00 a b), .int .u64 (n10 a b), .int .u64 (n20 a b), .int .u64 (n30 a b)]
def orW (x y : Int) : Int := IntKind.u64.wrap ↑(BitVec.ofInt 64 x ||| BitVec.ofInt 64 y).toNat
def mulO (a b : Int) : Bool := orW (orW (orW (n31 a b) (n32 a b)) (n33 a b)) (c34 a b) != 0
def mulPs (a b : Int) : List Prop := [mul64P [.int .u64 (w0 a), .int .u64 (w0 b)],
    add64P [.int .u64 (w0 a * w0 b % BB), .int .u64 (0), .int .u64 0],
    add64P [.int .u64 ((w0 a * w0 b % BB + 0 + 0) % BB), .int .u64 (0), .int .u64 0],
    mul64P [.int .u64 (w0 a), .int .u64 (w1 b)],
    add64P [.int .u64 (w0 a * w1 b % BB), .int .u64 (0), .int .u64 0],
    add64P [.int .u64 ((w0 a * w1 b % BB + 0 + 0) % BB), .int .u64 (c01 a b), .int .u64 0],
    mul64P [.int .u64 (w0 a), .int .u64 (w2 b)],
    add64P [.int .u64 (w0 a * w2 b % BB), .int .u64 (0), .int .u64 0],
    add64P [.int .u64 ((w0 a * w2 b % BB + 0 + 0) % BB), .int .u64 (c02 a b), .int .u64 0],
    mul64P [.int .u64 (w0 a), .int .u64 (w3 b)],
    add64P [.int .u64 (w0 a * w3 b % BB), .int .u64 (0), .int .u64 0],
    add64P [.int .u64 ((w0 a * w3 b % BB + 0 + 0) % BB), .int .u64 (c03 a b), .int .u64 0],
    mul64P [.int .u64 (w1 a), .int .u64 (w0 b)],
    add64P [.int .u64 (w1 a * w0 b % BB), .int .u64 (n01 a b), .int .u64 0],
    add64P [.int .u64 ((w1 a * w0 b % BB + n01 a b + 0) % BB), .int .u64 (0), .int .u64 0],
    mul64P [.int .u64 (w1 a), .int .u64 (w1 b)],
    add64P [.int .u64 (w1 a * w1 b % BB), .int .u64 (n02 a b), .int .u64 0],
    add64P [.int .u64 ((w1 a * w1 b % BB + n02 a b + 0) % BB), .int .u64 (c11 a b), .int .u64 0],
    mul64P [.int .u64 (w1 a), .int .u64 (w2 b)],
    add64P [.int .u64 (w1 a * w2 b % BB), .int .u64 (n03 a b), .int .u64 0],
    add64P [.int .u64 ((w1 a * w2 b % BB + n03 a b + 0) % BB), .int .u64 (c12 a b), .int .u64 0],
    mul64P [.int .u64 (w1 a), .int .u64 (w3 b)],
    add64P [.int .u64 (w1 a * w3 b % BB), .int .u64 (c04 a b), .int .u64 0],
    add64P [.int .u64 ((w1 a * w3 b % BB + c04 a b + 0) % BB), .int .u64 (c13 a b), .int .u64 0],
    mul64P [.int .u64 (w2 a), .int .u64 (w0 b)],
    add64P [.int .u64 (w2 a * w0 b % BB), .int .u64 (n11 a b), .int .u64 0],
    add64P [.int .u64 ((w2 a * w0 b % BB + n11 a b + 0) % BB), .int .u64 (0), .int .u64 0],
    mul64P [.int .u64 (w2 a), .int .u64 (w1 b)],
    add64P [.int .u64 (w2 a * w1 b % BB), .int .u64 (n12 a b), .int .u64 0],
    add64P [.int .u64 ((w2 a * w1 b % BB + n12 a b + 0) % BB), .int .u64 (c21 a b), .int .u64 0],
    mul64P [.int .u64 (w2 a), .int .u64 (w2 b)],
    add64P [.int .u64 (w2 a * w2 b % BB), .int .u64 (n13 a b), .int .u64 0],
    add64P [.int .u64 ((w2 a * w2 b % BB + n13 a b + 0) % BB), .int .u64 (c22 a b), .int .u64 0],
    mul64P [.int .u64 (w2 a), .int .u64 (w3 b)],
    add64P [.int .u64 (w2 a * w3 b % BB), .int .u64 (c14 a b), .int .u64 0],
    add64P [.int .u64 ((w2 a * w3 b % BB + c14 a b + 0) % BB), .int .u64 (c23 a b), .int .u64 0],
    mul64P [.int .u64 (w3 a), .int .u64 (w0 b)],
    add64P [.int .u64 (w3 a * w0 b % BB), .int .u64 (n21 a b), .int .u64 0],
    add64P [.int .u64 ((w3 a * w0 b % BB + n21 a b + 0) % BB), .int .u64 (0), .int .u64 0],
    mul64P [.int .u64 (w3 a), .int .u64 (w1 b)],
    add64P [.int .u64 (w3 a * w1 b % BB), .int .u64 (n22 a b), .int .u64 0],
    add64P [.int .u64 ((w3 a * w1 b % BB + n22 a b + 0) % BB), .int .u64 (c31 a b), .int .u64 0],
    mul64P [.int .u64 (w3 a), .int .u64 (w2 b)],
    add64P [.int .u64 (w3 a * w2 b % BB), .int .u64 (n23 a b), .int .u64 0],
    add64P [.int .u64 ((w3 a * w2 b % BB + n23 a b + 0) % BB), .int .u64 (c32 a b), .int .u64 0],
    mul64P [.int .u64 (w3 a), .int .u64 (w3 b)],
    add64P [.int .u64 (w3 a * w3 b % BB), .int .u64 (c24 a b), .int .u64 0],
    add64P [.int .u64 ((w3 a * w3 b % BB + c24 a b + 0) % BB), .int .u64 (c33 a b), .int .u64 0]]

theorem add64P_lt {x y : Int} (hx : 0 ≤ x) (hy : 0 ≤ y) : add64P [.int .u64 x, .int .u64 y, .int .u64 0] := ⟨hx, hy, by omega, by omega⟩
theorem ps_three {x y d c : Int} {l : List Prop} (hx : 0 ≤ x ∧ x < BB) (hy : 0 ≤ y ∧ y < BB) (hd : 0 ≤ d ∧ d < BB) (hc : 0 ≤ c ∧ c < BB) (hl : ∀ p ∈ l, p) :
    ∀ p ∈ mul64P [.int .u64 x, .int .u64 y] :: add64P [.int .u64 (x * y % BB), .int .u64 d, .int .u64 0] :: add64P [.int .u64 ((x * y % BB + d + 0) % BB), .int .u64 c, .int .u64 0] :: l, p := by
  have h1 : 0 ≤ x * y % BB := Int.emod_nonneg _ (by simp only [BB]; omega)
  have h2 : 0 ≤ (x * y % BB + d + 0) % BB := Int.emod_nonneg _ (by simp only [BB]; omega)
  exact ps_cons ⟨hx, hy⟩ (ps_cons (add64P_lt h1 hd.1) (ps_cons (add64P_lt h2 hc.1) hl))

theorem mul_facts (a b : Int) : (∀ p ∈ mulPs a b, p) ∧ (n00 a b + BB * n10 a b + B2 * n20 a b + B3 * n30 a b) + MM * (n31 a b + BB * n32 a b + B2 * n33 a b + B3 * c34 a b) = (a % MM) * (b % MM) ∧
    (0 ≤ n00 a b ∧ n00 a b < BB) ∧ (0 ≤ n10 a b ∧ n10 a b < BB) ∧ (0 ≤ n20 a b ∧ n20 a b < BB) ∧ (0 ≤ n30 a b ∧ n30 a b < BB) ∧ (0 ≤ n31 a b ∧ n31 a b < BB) ∧ (0 ≤ n32 a b ∧ n32 a b < BB) ∧ (0 ≤ n33 a b ∧ n33 a b < BB) ∧ (0 ≤ c34 a b ∧ c34 a b < BB) := by
  have x0 := w0_range a
  have y0 := w0_range b
  have x1 := w1_range a
  have y1 := w1_range b
  have x2 := w2_range a
  have y2 := w2_range b
  have x3 := w3_range a
  have y3 := w3_range b
  have z : 0 ≤ (0 : Int) ∧ (0 : Int) < BB := by simp only [BB]; omega
  have s00 : (0 ≤ n00 a b ∧ n00 a b < BB) ∧ (0 ≤ c01 a b ∧ c01 a b < BB) ∧ n00 a b + BB * c01 a b = w0 a * w0 b + 0 + 0 := step_eq x0 y0 z z
  have s01 : (0 ≤ n01 a b ∧ n01 a b < BB) ∧ (0 ≤ c02 a b ∧ c02 a b < BB) ∧ n01 a b + BB * c02 a b = w0 a * w1 b + 0 + c01 a b := step_eq x0 y1 z s00.2.1
  have s02 : (0 ≤ n02 a b ∧ n02 a b < BB) ∧ (0 ≤ c03 a b ∧ c03 a b < BB) ∧ n02 a b + BB * c03 a b = w0 a * w2 b + 0 + c02 a b := step_eq x0 y2 z s01.2.1
  have s03 : (0 ≤ n03 a b ∧ n03 a b < BB) ∧ (0 ≤ c04 a b ∧ c04 a b < BB) ∧ n03 a b + BB * c04 a b = w0 a * w3 b + 0 + c03 a b := step_eq x0 y3 z s02.2.1
  have s10 : (0 ≤ n10 a b ∧ n10 a b < BB) ∧ (0 ≤ c11 a b ∧ c11 a b < BB) ∧ n10 a b + BB * c11 a b = w1 a * w0 b + n01 a b + 0 := step_eq x1 y0 s01.1 z
  have s11 : (0 ≤ n11 a b ∧ n11 a b < BB) ∧ (0 ≤ c12 a b ∧ c12 a b < BB) ∧ n11 a b + BB * c12 a b = w1 a * w1 b + n02 a b + c11 a b := step_eq x1 y1 s02.1 s10.2.1
  have s12 : (0 ≤ n12 a b ∧ n12 a b < BB) ∧ (0 ≤ c13 a b ∧ c13 a b < BB) ∧ n12 a b + BB * c13 a b = w1 a * w2 b + n03 a b + c12 a b := step_eq x1 y2 s03.1 s11.2.1
  have s13 : (0 ≤ n13 a b ∧ n13 a b < BB) ∧ (0 ≤ c14 a b ∧ c14 a b < BB) ∧ n13 a b + BB * c14 a b = w1 a * w3 b + c04 a b + c13 a b := step_eq x1 y3 s03.2.1 s12.2.1
  have s20 : (0 ≤ n20 a b ∧ n20 a b < BB) ∧ (0 ≤ c21 a b ∧ c21 a b < BB) ∧ n20 a b + BB * c21 a b = w2 a * w0 b + n11 a b + 0 := step_eq x2 y0 s11.1 z
  have s21 : (0 ≤ n21 a b ∧ n21 a b < BB) ∧ (0 ≤ c22 a b ∧ c22 a b < BB) ∧ n21 a b + BB * c22 a b = w2 a * w1 b + n12 a b + c21 a b := step_eq x2 y1 s12.1 s20.2.1
  have s22 : (0 ≤ n22 a b ∧ n22 a b < BB) ∧ (0 ≤ c23 a b ∧ c23 a b < BB) ∧ n22 a b + BB * c23 a b = w2 a * w2 b + n13 a b + c22 a b := step_eq x2 y2 s13.1 s21.2.1
  have s23 : (0 ≤ n23 a b ∧ n23 a b < BB) ∧ (0 ≤ c24 a b ∧ c24 a b < BB) ∧ n23 a b + BB * c24 a b = w2 a * w3 b + c14 a b + c23 a b := step_eq x2 y3 s13.2.1 s22.2.1
  have s30 : (0 ≤ n30 a b ∧ n30 a b < BB) ∧ (0 ≤ c31 a b ∧ c31 a b < BB) ∧ n30 a b + BB * c31 a b = w3 a * w0 b + n21 a b + 0 := step_eq x3 y0 s21.1 z
  have s31 : (0 ≤ n31 a b ∧ n31 a b < BB) ∧ (0 ≤ c32 a b ∧ c32 a b < BB) ∧ n31 a b + BB * c32 a b = w3 a * w1 b + n22 a b + c31 a b := step_eq x3 y1 s22.1 s30.2.1
  have s32 : (0 ≤ n32 a b ∧ n32 a b < BB) ∧ (0 ≤ c33 a b ∧ c33 a b < BB) ∧ n32 a b + BB * c33 a b = w3 a * w2 b + n23 a b + c32 a b := step_eq x3 y2 s23.1 s31.2.1
  have s33 : (0 ≤ n33 a b ∧ n33 a b < BB) ∧ (0 ≤ c34 a b ∧ c34 a b < BB) ∧ n33 a b + BB * c34 a b = w3 a * w3 b + c24 a b + c33 a b := step_eq x3 y3 s23.2.1 s32.2.1
  refine ⟨?_, ?_, s00.1, s10.1, s20.1, s30.1, s31.1, s32.1, s33.1, s33.2.1⟩
  · unfold mulPs
    exact (ps_three x0 y0 z z (ps_three x0 y1 z s00.2.1 (ps_three x0 y2 z s01.2.1 (ps_three x0 y3 z s02.2.1 (ps_three x1 y0 s01.1 z (ps_three x1 y1 s02.1 s10.2.1 (ps_three x1 y2 s03.1 s11.2.1 (ps_three x1 y3 s03.2.1 s12.2.1 (ps_three x2 y0 s11.1 z (ps_three x2 y1 s12.1 s20.2.1 (ps_three x2 y2 s13.1 s21.2.1 (ps_three x2 y3 s13.2.1 s22.2.1 (ps_three x3 y0 s21.1 z (ps_three x3 y1 s22.1 s30.2.1 (ps_three x3 y2 s23.1 s31.2.1 (ps_three x3 y3 s23.2.1 s32.2.1 ps_nil))))))))))))))))
  · have ea := words_sum a
    have eb := words_sum b
    rw [← ea, ← eb]
    have hexp : (w0 a + BB * w1 a + B2 * w2 a + B3 * w3 a) * (w0 b + BB * w1 b + B2 * w2 b + B3 * w3 b) =
        1 * (w0 a * w0 b) + BB * (w0 a * w1 b) + B2 * (w0 a * w2 b) + B3 * (w0 a * w3 b) + BB * (w1 a * w0 b) + B2 * (w1 a * w1 b) + B3 * (w1 a * w2 b) + MM * (w1 a * w3 b) + B2 * (w2 a * w0 b) + B3 * (w2 a * w1 b) + MM * (w2 a * w2 b) + (MM * BB) * (w2 a * w3 b) + B3 * (w3 a * w0 b) + MM * (w3 a * w1 b) + (MM * BB) * (w3 a * w2 b) + (MM * B2) * (w3 a * w3 b) := by
      simp only [BB, B2, B3, MM]
      grind
    rw [hexp]
    have g : ∀ {P Q R : Prop}, P ∧ Q ∧ R → R := fun h => h.2.2
    replace s00 := g s00
    replace s01 := g s01
    replace s02 := g s02
    replace s03 := g s03
    replace s10 := g s10
    replace s11 := g s11
    replace s12 := g s12
    replace s13 := g s13
    replace s20 := g s20
    replace s21 := g s21
    replace s22 := g s22
    replace s23 := g s23
    replace s30 := g s30
    replace s31 := g s31
    replace s32 := g s32
    replace s33 := g s33
    generalize w0 a * w0 b = q00 at *
    generalize w0 a * w1 b = q01 at *
    generalize w0 a * w2 b = q02 at *
    generalize w0 a * w3 b = q03 at *
    generalize w1 a * w0 b = q10 at *
    generalize w1 a * w1 b = q11 at *
    generalize w1 a * w2 b = q12 at *
    generalize w1 a * w3 b = q13 at *
    generalize w2 a * w0 b = q20 at *
    generalize w2 a * w1 b = q21 at *
    generalize w2 a * w2 b = q22 at *
    generalize w2 a * w3 b = q23 at *
    generalize w3 a * w0 b = q30 at *
    generalize w3 a * w1 b = q31 at *
    generalize w3 a * w2 b = q32 at *
    generalize w3 a * w3 b = q33 at *
    clear ea eb hexp g
    clear x0 y0
    clear x1 y1
    clear x2 y2
    clear x3 y3
    simp only [BB, B2, B3, MM] at *
    omega
end Go.Wd
