/-
  Contracts of package quot, eighth part: floor. Printed by quotH.py.
-/
import Derived.Test.YtpofhfhejnapkaaQta
import Derived.Test.YtpofhfhejnapkaaLawA
import Derived.Test.YtpofhfhejnapkaaRfb
set_option maxRecDepth 100000
namespace Go.Qt
open Go Go.RowKit Go.Sx Go.Nm Go.Wd Go.Proofs
def fq (a b : Int) : Int := if 0 < b then a / b else (-a) / (-b)
def fr (a b : Int) : Int := if 0 < b then a % b else -((-a) % (-b))
def Sm (a : Int) : Prop := -HH < a ∧ a < HH
end Go.Qt
/-
  Contracts of package quot, ninth part: Floor, Rest, Ceil, Near. Printed by quotI.py.
-/
namespace Go.Qt
open Go Go.RowKit Go.Sx Go.Nm Go.Wd Go.Proofs
def qe (a b : Int) : Int := if b = 0 then 30 else if a = -HH ∨ b = -HH then 20 else 0
def qv (f : Int → Int → Int) (a b : Int) : Int := if qe a b = 0 then f a b else 0
def cq (a b : Int) : Int := if fr a b = 0 then fq a b else fq a b + 1
def nc (a b : Int) : Int := cmp3 (fr a b) (b - fr a b) * cmp3 b 0
def nq (a b : Int) : Int := if nc a b > 0 ∨ nc a b = 0 ∧ 0 ≤ fq a b then fq a b + 1 else fq a b
theorem qe_ok {a b : Int} (ha : Sm a) (hb : Sm b) (h : b ≠ 0) : qe a b = 0 := by unfold qe Sm at *; rw [if_neg h, if_neg (by omega)]
end Go.Qt
/-
  Contracts of package quot, tenth part: Left, Right, Ints. Printed by quotJ.py.
-/
namespace Go.Qt
open Go Go.RowKit Go.Sx Go.Nm Go.Wd Go.Proofs
def le (a n : Int) : Int := if n < 0 ∨ 254 < n then 2 else if inRB (a * 2 ^ n.toNat) then 0 else 20
def lv (a n : Int) : Int := if le a n = 0 then a * 2 ^ n.toNat else 0
def re (a n : Int) : Int := if n < 0 ∨ 254 < n then 2 else if a = -HH then 20 else 0
def ie (a b c : Int) : Int := if c = 0 then 30 else if i64B (nq (a * b) c) then 0 else 20
def iv (a b c : Int) : Int := if ie a b c = 0 then nq (a * b) c else 0
theorem sm64 {a : Int} (h : I64 a) : Sm a := by unfold I64 Sm at *; simp only [HH]; omega
theorem smmul {a b : Int} (ha : I64 a) (hb : I64 b) : Sm (a * b) := by
  have h := mul64_in ha hb
  unfold InR at h
  unfold Sm
  refine ⟨?_, h.2⟩
  unfold I64 at ha hb
  have hH : HH = 57896044618658097711785492504343953926634992332820282019728792003956564819968 := rfl
  have e1 : a.natAbs ≤ 9223372036854775808 := by omega
  have e2 : b.natAbs ≤ 9223372036854775808 := by omega
  have e3 : (a * b).natAbs ≤ 9223372036854775808 * 9223372036854775808 := by rw [Int.natAbs_mul]; exact Nat.mul_le_mul e1 e2
  omega
noncomputable def quotC : List (Ctr P) := []
end Go.Qt
/-
  Plain arithmetic of floors, ceilings, nearest ones. Printed by lawq1.py.
-/
namespace Go.Qt
open Go Go.RowKit Go.Sx Go.Nm Go.Wd Go.Proofs
theorem qv_ok (f : Int → Int → Int) {a b : Int} (ha : Sm a) (hb : Sm b) (h : b ≠ 0) : qv f a b = f a b := by unfold qv; rw [qe_ok ha hb h, if_pos rfl]
theorem fq_tt {a b : Int} (h : b ≠ 0) : fq (-a) (-b) = fq a b ∧ fr (-a) (-b) = -fr a b := by
  unfold fq fr
  by_cases h1 : 0 < b
  · rw [if_pos h1, if_pos h1, if_neg (by omega), if_neg (by omega), Int.neg_neg, Int.neg_neg]
    exact ⟨rfl, rfl⟩
  · rw [if_neg h1, if_neg h1, if_pos (by omega), if_pos (by omega)]
    exact ⟨rfl, by omega⟩
theorem nc_tt {a b : Int} (h : b ≠ 0) : nc (-a) (-b) = nc a b := by
  unfold nc
  rw [(fq_tt (a := a) h).2]
  have e1 : cmp3 (-fr a b) (-b - -fr a b) = -cmp3 (fr a b) (b - fr a b) := by unfold cmp3; omega
  have e2 : cmp3 (-b) 0 = -cmp3 b 0 := by unfold cmp3; omega
  rw [e1, e2, Int.neg_mul_neg]
theorem nq_tt {a b : Int} (h : b ≠ 0) : nq (-a) (-b) = nq a b := by unfold nq; rw [nc_tt h, (fq_tt h).1]
theorem ncp {a b : Int} (h : 0 < b) : nc a b = cmp3 (fr a b) (b - fr a b) := by
  unfold nc
  have e : cmp3 b 0 = 1 := by unfold cmp3; omega
  rw [e, Int.mul_one]
theorem own {b : Int} (h : b ≠ 0) : fr b b = 0 ∧ nq b b = 1 ∧ fq b 1 = b := by
  have key : ∀ {b : Int}, 0 < b → fr b b = 0 ∧ nq b b = 1 := fun {b} h => by
    have e1 : fr b b = 0 := by unfold fr; rw [if_pos h, Int.emod_self]
    have e2 : fq b b = 1 := by unfold fq; rw [if_pos h, Int.ediv_self (by omega)]
    refine ⟨e1, ?_⟩
    unfold nq
    rw [ncp h, e1, e2]
    have e3 : cmp3 0 (b - 0) = -1 := by unfold cmp3; omega
    rw [e3]
    simp
  refine ⟨?_, ?_, ?_⟩
  · by_cases h1 : 0 < b
    · exact (key h1).1
    · have := (fq_tt (a := b) h).2
      rw [(key (b := -b) (by omega)).1] at this
      omega
  · by_cases h1 : 0 < b
    · exact (key h1).2
    · rw [← nq_tt h]; exact (key (b := -b) (by omega)).2
  · unfold fq; rw [if_pos (by omega), Int.ediv_one]
def ab (x : Int) : Int := if x < 0 then -x else x
def dn (a b : Int) : Int := a - nq a b * b
end Go.Qt
