/-
 Chapter 28, plain: the factors, places and speeds, and what the laws say of them.
-/
import Derived.Test.YtekplphjbngabaaGreatDoorQtb
set_option maxRecDepth 100000
namespace Go.He
open Go Go.Wd Go.Qt
def pA (h t : Int) : Int := h * h * h - t * t * (3 * h - 2 * t)
def pB (h t : Int) : Int := t * (h - t) * (h - t) * h
def pC (h t : Int) : Int := t * t * (3 * h - 2 * t)
def pD (h t : Int) : Int := -(t * t * (h - t) * h)
def qA (h t : Int) : Int := -(6 * t * (h - t))
def qB (h t : Int) : Int := (h - t) * (h - 3 * t) * h
def qC (h t : Int) : Int := 6 * t * (h - t)
def qD (h t : Int) : Int := t * (3 * t - 2 * h) * h
def pS (x v y w h t : Int) : Int := pA h t * x + pB h t * v + pC h t * y + pD h t * w
def qS (x v y w h t : Int) : Int := qA h t * x + qB h t * v + qC h t * y + qD h t * w
def place (x v y w h t : Int) : Int := nq (pS x v y w h t) (h * h * h)
def speed (x v y w h t : Int) : Int := nq (qS x v y w h t) (h * h * h)
theorem fq_rest {a b : Int} (h : 0 < b) : b * fq a b + fr a b = a ∧ 0 ≤ fr a b ∧ fr a b < b := by
 unfold fq fr
 rw [if_pos h, if_pos h]
 exact ⟨Int.mul_ediv_add_emod a b, Int.emod_nonneg a (by omega), Int.emod_lt_of_pos a h⟩
theorem nq_two {a b : Int} (h : 0 < b) : (2 * nq a b - 1) * b ≤ 2 * a ∧ 2 * a ≤ (2 * nq a b + 1) * b := by
 obtain ⟨e, r0, r1⟩ := fq_rest (a := a) h
 have hb : cmp3 b 0 = 1 := by unfold cmp3; omega
 have c : nc a b = cmp3 (fr a b) (b - fr a b) := by unfold nc; rw [hb, Int.mul_one]
 unfold nq
 rw [c]
 generalize fq a b = f at *
 generalize fr a b = r at *
 subst e
 have e1 : (2 * (f + 1) - 1) * b = 2 * (b * f) + b := by grind
 have e2 : (2 * (f + 1) + 1) * b = 2 * (b * f) + 3 * b := by grind
 have e3 : (2 * f - 1) * b = 2 * (b * f) - b := by grind
 have e4 : (2 * f + 1) * b = 2 * (b * f) + b := by grind
 by_cases hc : cmp3 r (b - r) > 0 ∨ cmp3 r (b - r) = 0 ∧ 0 ≤ f
 · have k : b - r ≤ r := by unfold cmp3 at hc; omega
   rw [if_pos hc, e1, e2]; omega
 · have k : r ≤ b - r := by unfold cmp3 at hc; omega
   rw [if_neg hc, e3, e4]; omega
theorem mulb {a b A B : Int} (h1 : -A ≤ a) (h2 : a ≤ A) (h3 : -B ≤ b) (h4 : b ≤ B) : -(A * B) ≤ a * b ∧ a * b ≤ A * B := by
 have p1 : 0 ≤ (A - a) * (B + b) := Int.mul_nonneg (by omega) (by omega)
 have p2 : 0 ≤ (A + a) * (B - b) := Int.mul_nonneg (by omega) (by omega)
 have p3 : 0 ≤ (A - a) * (B - b) := Int.mul_nonneg (by omega) (by omega)
 have p4 : 0 ≤ (A + a) * (B + b) := Int.mul_nonneg (by omega) (by omega)
 have e1 : (A - a) * (B + b) = A * B + A * b - a * B - a * b := by grind
 have e2 : (A + a) * (B - b) = A * B - A * b + a * B - a * b := by grind
 have e3 : (A - a) * (B - b) = A * B - A * b - a * B + a * b := by grind
 have e4 : (A + a) * (B + b) = A * B + A * b + a * B + a * b := by grind
 rw [e1] at p1
 rw [e2] at p2
 rw [e3] at p3
 rw [e4] at p4
 omega
structure May (x v y w h t : Int) : Prop where
 x1 : -2097152 ≤ x
 x2 : x ≤ 2097152
 y1 : -2097152 ≤ y
 y2 : y ≤ 2097152
 v1 : -131072 ≤ v
 v2 : v ≤ 131072
 w1 : -131072 ≤ w
 w2 : w ≤ 131072
 h1 : 1 ≤ h
 h2 : h ≤ 4096
 t1 : 0 ≤ t
 t2 : t ≤ h
theorem nq_in {S D M : Int} (hD : 0 < D) (h : -(D * M) ≤ S ∧ S ≤ D * M) : -M ≤ nq S D ∧ nq S D ≤ M := by
 have n := nq_two (a := S) hD
 generalize nq S D = p at *
 have e1 : D * M = M * D := Int.mul_comm _ _
 rw [e1] at h
 have e2 : 2 * M * D = 2 * (M * D) := Int.mul_assoc _ _ _
 have e3 : -(2 * M) * D = -(2 * (M * D)) := by rw [Int.neg_mul, e2]
 have u1 : (2 * p - 1) * D ≤ 2 * M * D := by rw [e2]; omega
 have u2 : -(2 * M) * D ≤ (2 * p + 1) * D := by rw [e3]; omega
 have v1 := Int.le_of_mul_le_mul_right u1 hD
 have v2 := Int.le_of_mul_le_mul_right u2 hD
 omega
end Go.He
