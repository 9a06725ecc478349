/-
  Contracts of package quot, tenth part: Left, Right, Ints. Printed by quotJ.py.
-/
import Derived.Test.YtjfcndiodbaejaaDoorQuotI
set_option maxRecDepth 100000
namespace Go.Qt
open Go Go.RowKit Go.Sx Go.Nm Go.Wd Go.Proofs

def le (a n : Int) : Int := if n < 0 ∨ 254 < n then 2 else if inRB (a * 2 ^ n.toNat) then 0 else 20
def lv (a n : Int) : Int := if le a n = 0 then a * 2 ^ n.toNat else 0
def re (a n : Int) : Int := if n < 0 ∨ 254 < n then 2 else if a = -HH then 20 else 0
def rv (a n : Int) : Int := if re a n = 0 then fq a (2 ^ n.toNat) else 0
def ie (a b c : Int) : Int := if c = 0 then 30 else if i64B (nq (a * b) c) then 0 else 20
def iv (a b c : Int) : Int := if ie a b c = 0 then nq (a * b) c else 0
noncomputable def Qs : Env P := ⟨⟨shift :: wideC, []⟩, [], 10, [toldD]⟩
noncomputable def Qi : Env P := ⟨⟨[sure] ++ wideC, []⟩, [], 10, [toldD]⟩
noncomputable def Qj : Env P := ⟨⟨[must, sure] ++ wideC, []⟩, [], 10, [toldD]⟩
theorem p2_in {n : Int} (h : 0 ≤ n) (h2 : n ≤ 254) : Sm (2 ^ n.toNat) ∧ (0 : Int) < 2 ^ n.toNat := by
  have := pow2_pos n.toNat
  have h1 : (2 : Int) ^ n.toNat ≤ 2 ^ 254 := pow2_le (by omega)
  have h3 : (2 : Int) ^ 254 < HH := by decide
  unfold Sm
  exact ⟨by omega, this⟩
theorem p2_R {n : Int} (h : 0 ≤ n) (h2 : n ≤ 254) : InR (1 * 2 ^ n.toNat) := by
  rw [Int.one_mul]
  have := (p2_in h h2).1
  unfold Sm at this
  unfold InR
  omega
theorem shiftP_1 {n : Int} (h : 0 ≤ n) (h2 : n ≤ 254) : shiftP [W 1, .int .i64 n] := ⟨⟨_, rfl⟩, h, by omega⟩
theorem nsure {n : Int} (h : inRB n = false) : (!(!(!inRB n))) = true := by rw [h]; rfl
theorem weq0_t : weq 0 0 = true := by decide
theorem weq0_f {a : Int} (i : InR a) (h : a ≠ 0) : weq a 0 = false := nwn i (by unfold InR; decide) h
def shP : List Value → Prop
  | [x, .int .i64 n] => IsW x ∧ I64 n
  | _ => False
def shPr : List Value → Prop
  | [x, .int .i64 n] => IsW x ∧ I64 n ∧ re (tI x) n ≠ 20
  | _ => False
def leftV : List Value → Value
  | [x, .int _ n] => .tuple #[W (lv (tI x) n), .int .i64 (le (tI x) n)]
  | _ => undef
def rightV : List Value → Value
  | [x, .int _ n] => .tuple #[W (rv (tI x) n), .int .i64 (re (tI x) n)]
  | _ => undef
def intsP : List Value → Prop
  | [.int .i64 a, .int .i64 b, .int .i64 c] => I64 a ∧ I64 b ∧ I64 c
  | _ => False
def intsV : List Value → Value
  | [.int _ a, .int _ b, .int _ c] => .tuple #[.int .i64 (iv a b c), .int .i64 (ie a b c)]
  | _ => undef
/-- The nearest is within. -/
theorem nq_in {a b : Int} (ha : Sm a) (hb : Sm b) (h : b ≠ 0) : InR (nq a b) := by
  unfold nq
  split
  · rename_i hc
    exact up_in ha hb h (nc_rest ha hb h (by omega))
  · exact (fl_facts ha hb h).2.2.2.1
theorem sm64 {a : Int} (h : I64 a) : Sm a := by unfold I64 Sm at *; simp only [HH]; omega
theorem smmul {a b : Int} (ha : I64 a) (hb : I64 b) : Sm (a * b) := by
  have h := mul64_in ha hb
  unfold InR at h
  unfold Sm
  refine ⟨?_, h.2⟩
  unfold I64 at ha hb
  have hH : HH = 57896044618658097711785492504343953926634992332820282019728792003956564819968 := rfl
  have e1 : a.natAbs ≤ 9223372036854775808 := by omega
  have e2 : b.natAbs ≤ 9223372036854775808 := by omega
  have e3 : (a * b).natAbs ≤ 9223372036854775808 * 9223372036854775808 := by rw [Int.natAbs_mul]; exact Nat.mul_le_mul e1 e2
  omega
noncomputable def quotC : List (Ctr P) := [cFloor, cCeil]
end Go.Qt
