/-
  Tools for the laws over wide numbers: rests as a ring, order.
-/
import Derived.Test.YthadbpnapbmppaaGreatDoorWda
set_option maxRecDepth 100000
namespace Go.Wd
open Go Go.RowKit Go.Sx Go.Nm Go.Proofs

theorem calls_of_run {P : Program} {E : Env P} {lv : Nat} {f : FuncId} {args : List Value} {ds : List Dec} {v u : Value} {ps : List Prop} (hm : P.follows .mixedOrders = true)
    (hr : runF P E lv f args ds = some (v, ps)) (hp : ∀ p ∈ ps, p) (hu : v = u) : ∀ w, LaidG w → Calls P f args.toArray w fun e w' => e = .returned u ∧ Below w.heap.size w w' := by
  subst hu
  exact (runF_calls hm hr hp).1

theorem P1_W (n : Int) : P1 [W n] := ⟨n, rfl⟩
theorem P2_W (m n : Int) : P2 [W m, W n] := ⟨⟨m, rfl⟩, ⟨n, rfl⟩⟩

/-! ### rests -/
def o (n : Int) : BitVec 256 := BitVec.ofInt 256 n
theorem o_add (x y : Int) : o (x + y) = o x + o y := BitVec.ofInt_add ..
theorem o_mul (x y : Int) : o (x * y) = o x * o y := BitVec.ofInt_mul ..
theorem o_neg (x : Int) : o (-x) = -o x := BitVec.ofInt_neg ..
theorem o_sub (x y : Int) : o (x - y) = o x - o y := by
  rw [Int.sub_eq_add_neg, o_add, o_neg, BitVec.sub_eq_add_neg]
theorem o_one : o 1 = 1 := rfl
theorem o_zero : o 0 = 0 := rfl
theorem o_eq {x y : Int} : o x = o y ↔ x % MM = y % MM := by
  unfold o
  constructor
  · intro h
    have h2 := congrArg BitVec.toNat h
    simp only [BitVec.toNat_ofInt] at h2
    have e : ((2 : Int) ^ 256) = MM := by decide
    have e2 : ((2 ^ 256 : Nat) : Int) = MM := by decide
    rw [e2] at h2
    simp only [MM] at *
    omega
  · intro h
    apply BitVec.eq_of_toNat_eq
    simp only [BitVec.toNat_ofInt]
    have e2 : ((2 ^ 256 : Nat) : Int) = MM := by decide
    rw [e2, h]
theorem o_bm (x : Int) : o (bm x) = o x := o_eq.2 (bm_mod x)
theorem o_tI (x : Int) : o (tI (W x)) = o x := by rw [tI_W, o_bm]
theorem weq_o {x y : Int} (h : o x = o y) : weq x y = true := weq_iff.2 (o_eq.1 h)
theorem nweq {x y : Int} (h : weq x y = true) : (!(weq x y)) = false := by rw [h]; rfl
theorem tI_in {n : Int} (h : InR n) : tI (W n) = n := by rw [tI_W, bm_in h]
theorem inR64 {n : Int} (h : I64 n) : InR n := by unfold I64 InR at *; simp only [HH]; omega
theorem inRB_of {n : Int} (h : InR n) : inRB n = true := by unfold inRB InR at *; simp [h.1, h.2]
theorem inRB_iff {n : Int} : inRB n = true ↔ InR n := by unfold inRB InR; simp
theorem inRB_not {n : Int} : inRB n = false ↔ ¬ InR n := by rw [← inRB_iff]; simp
theorem inR_1 : InR 1 := by unfold InR; decide
theorem inR_0 : InR 0 := by unfold InR; decide

/-! ### order -/
theorem cmp3_neg (x y : Int) : cmp3 y x = -cmp3 x y := by unfold cmp3; omega
theorem cmp3_r (x y : Int) : -1 ≤ cmp3 x y ∧ cmp3 x y ≤ 1 := by unfold cmp3; omega
theorem cmp3_0 {x y : Int} : cmp3 x y = 0 ↔ x = y := by unfold cmp3; omega
theorem cmp3_sub (x y : Int) : cmp3 (x - y) 0 = cmp3 x y := by unfold cmp3; omega
theorem wrap_small {n : Int} (h : -1 ≤ n ∧ n ≤ 1) : IntKind.i64.wrap n = n := wrap_i64_in (by omega) (by omega)
theorem cmp3_n {x : Int} (h : x < 0) : cmp3 x 0 = -1 := by unfold cmp3; omega
theorem cmp3_p {x : Int} (h : 0 < x) : cmp3 x 0 = 1 := by unfold cmp3; omega
theorem cmp3_z : cmp3 0 0 = 0 := rfl
theorem cmp3_mul (x y : Int) : cmp3 (x * y) 0 = cmp3 x 0 * cmp3 y 0 := by
  rcases Int.lt_trichotomy x 0 with hx | hx | hx
  · rcases Int.lt_trichotomy y 0 with hy | hy | hy
    · rw [cmp3_n hx, cmp3_n hy, cmp3_p (Int.mul_pos_of_neg_of_neg hx hy)]; rfl
    · subst hy; rw [Int.mul_zero, cmp3_z, Int.mul_zero]
    · rw [cmp3_n hx, cmp3_p hy, cmp3_n (Int.mul_neg_of_neg_of_pos hx hy)]; rfl
  · subst hx; rw [Int.zero_mul, cmp3_z, Int.zero_mul]
  · rcases Int.lt_trichotomy y 0 with hy | hy | hy
    · rw [cmp3_p hx, cmp3_n hy, cmp3_n (Int.mul_neg_of_pos_of_neg hx hy)]; rfl
    · subst hy; rw [Int.mul_zero, cmp3_z, Int.mul_zero]
    · rw [cmp3_p hx, cmp3_p hy, cmp3_p (Int.mul_pos hx hy)]; rfl
theorem mul64_in {n m : Int} (hn : I64 n) (hm : I64 m) : InR (n * m) := by
  unfold I64 at *
  unfold InR
  have h1 : (n * m).natAbs ≤ 9223372036854775808 * 9223372036854775808 := by
    rw [Int.natAbs_mul]
    exact Nat.mul_le_mul (by omega) (by omega)
  simp only [HH]
  omega
theorem sum_over {a b : Int} (ha : InR a) (hb : InR b) (h : inRB (a + b) = false) : cmp3 a 0 = cmp3 b 0 ∧ cmp3 (bm (a + b)) a ≠ cmp3 b 0 := by
  rw [inRB_not] at h
  have hm := bm_mod (a + b)
  have hr := bm_range (a + b)
  unfold InR at *
  unfold cmp3
  simp only [MM, HH] at *
  omega
end Go.Wd
