/-
  Chapter 28, plain: the factors, places and speeds, and what the laws say of them.
-/
import Derived.Test.YtdnpnccieabmiaaDoorQtb
set_option maxRecDepth 100000
namespace Go.He
open Go Go.Wd Go.Qt
def pA (h t : Int) : Int := h * h * h - t * t * (3 * h - 2 * t)
def pB (h t : Int) : Int := t * (h - t) * (h - t) * h
def pC (h t : Int) : Int := t * t * (3 * h - 2 * t)
def pD (h t : Int) : Int := -(t * t * (h - t) * h)
def qA (h t : Int) : Int := -(6 * t * (h - t))
def qB (h t : Int) : Int := (h - t) * (h - 3 * t) * h
def qC (h t : Int) : Int := 6 * t * (h - t)
def qD (h t : Int) : Int := t * (3 * t - 2 * h) * h
def pS (x v y w h t : Int) : Int := pA h t * x + pB h t * v + pC h t * y + pD h t * w
def qS (x v y w h t : Int) : Int := qA h t * x + qB h t * v + qC h t * y + qD h t * w
def place (x v y w h t : Int) : Int := nq (pS x v y w h t) (h * h * h)
def speed (x v y w h t : Int) : Int := nq (qS x v y w h t) (h * h * h)
theorem fq_rest {a b : Int} (h : 0 < b) : b * fq a b + fr a b = a ∧ 0 ≤ fr a b ∧ fr a b < b := by
  unfold fq fr
  rw [if_pos h, if_pos h]
  exact ⟨Int.mul_ediv_add_emod a b, Int.emod_nonneg a (by omega), Int.emod_lt_of_pos a h⟩
theorem nq_two {a b : Int} (h : 0 < b) : (2 * nq a b - 1) * b ≤ 2 * a ∧ 2 * a ≤ (2 * nq a b + 1) * b := by
  obtain ⟨e, r0, r1⟩ := fq_rest (a := a) h
  have hb : cmp3 b 0 = 1 := by unfold cmp3; omega
  have c : nc a b = cmp3 (fr a b) (b - fr a b) := by unfold nc; rw [hb, Int.mul_one]
  unfold nq
  rw [c]
  generalize fq a b = f at *
  generalize fr a b = r at *
  subst e
  have e1 : (2 * (f + 1) - 1) * b = 2 * (b * f) + b := by grind
  have e2 : (2 * (f + 1) + 1) * b = 2 * (b * f) + 3 * b := by grind
  have e3 : (2 * f - 1) * b = 2 * (b * f) - b := by grind
  have e4 : (2 * f + 1) * b = 2 * (b * f) + b := by grind
  by_cases hc : cmp3 r (b - r) > 0 ∨ cmp3 r (b - r) = 0 ∧ 0 ≤ f
  · have k : b - r ≤ r := by unfold cmp3 at hc; omega
    rw [if_pos hc, e1, e2]; omega
  · have k : r ≤ b - r := by unfold cmp3 at hc; omega
    rw [if_neg hc, e3, e4]; omega
theorem nq_own {k b : Int} (h : 0 < b) : nq (b * k) b = k := by
  obtain ⟨e, r0, r1⟩ := fq_rest (a := b * k) h
  have u : fr (b * k) b = 0 := by unfold fr; rw [if_pos h]; exact Int.mul_emod_right b k
  have f : fq (b * k) b = k := by unfold fq; rw [if_pos h]; exact Int.mul_ediv_cancel_left k (by omega)
  have c : nc (b * k) b = -1 := by
    unfold nc; rw [u]
    have hb : cmp3 b 0 = 1 := by unfold cmp3; omega
    rw [hb]; unfold cmp3; omega
  unfold nq
  rw [c, f, if_neg (by omega)]
theorem cube {h : Int} (h1 : 1 ≤ h) (h2 : h ≤ 4096) : 1 ≤ h * h * h ∧ h * h * h ≤ 68719476736 := by
  have a1 : 1 ≤ h * h := Int.mul_le_mul (a := 1) (b := 1) (c := h) (d := h) h1 h1 (by decide) (by omega)
  have a2 : h * h ≤ 16777216 := Int.mul_le_mul (a := h) (b := h) (c := 4096) (d := 4096) h2 h2 (by omega) (by decide)
  exact ⟨Int.mul_le_mul (a := 1) (b := 1) (c := h * h) (d := h) a1 h1 (by decide) (by omega), Int.mul_le_mul (a := h * h) (b := h) (c := 16777216) (d := 4096) a2 h2 (by omega) (by decide)⟩
theorem place_0 {x v y w h : Int} (h1 : 1 ≤ h) (h2 : h ≤ 4096) : place x v y w h 0 = x := by
  have e : pS x v y w h 0 = h * h * h * x := by unfold pS pA pB pC pD; grind
  unfold place; rw [e]; exact nq_own (by have := cube h1 h2; omega)
theorem speed_0 {x v y w h : Int} (h1 : 1 ≤ h) (h2 : h ≤ 4096) : speed x v y w h 0 = v := by
  have e : qS x v y w h 0 = h * h * h * v := by unfold qS qA qB qC qD; grind
  unfold speed; rw [e]; exact nq_own (by have := cube h1 h2; omega)
theorem place_h {x v y w h : Int} (h1 : 1 ≤ h) (h2 : h ≤ 4096) : place x v y w h h = y := by
  have e : pS x v y w h h = h * h * h * y := by unfold pS pA pB pC pD; grind
  unfold place; rw [e]; exact nq_own (by have := cube h1 h2; omega)
theorem speed_h {x v y w h : Int} (h1 : 1 ≤ h) (h2 : h ≤ 4096) : speed x v y w h h = w := by
  have e : qS x v y w h h = h * h * h * w := by unfold qS qA qB qC qD; grind
  unfold speed; rw [e]; exact nq_own (by have := cube h1 h2; omega)
theorem p_sum (h t : Int) : pA h t + pC h t = h * h * h := by unfold pA pC; grind
theorem mulb {a b A B : Int} (h1 : -A ≤ a) (h2 : a ≤ A) (h3 : -B ≤ b) (h4 : b ≤ B) : -(A * B) ≤ a * b ∧ a * b ≤ A * B := by
  have p1 : 0 ≤ (A - a) * (B + b) := Int.mul_nonneg (by omega) (by omega)
  have p2 : 0 ≤ (A + a) * (B - b) := Int.mul_nonneg (by omega) (by omega)
  have p3 : 0 ≤ (A - a) * (B - b) := Int.mul_nonneg (by omega) (by omega)
  have p4 : 0 ≤ (A + a) * (B + b) := Int.mul_nonneg (by omega) (by omega)
  have e1 : (A - a) * (B + b) = A * B + A * b - a * B - a * b := by grind
  have e2 : (A + a) * (B - b) = A * B - A * b + a * B - a * b := by grind
  have e3 : (A - a) * (B - b) = A * B - A * b - a * B + a * b := by grind
  have e4 : (A + a) * (B + b) = A * B + A * b + a * B + a * b := by grind
  rw [e1] at p1
  rw [e2] at p2
  rw [e3] at p3
  rw [e4] at p4
  omega
structure May (x v y w h t : Int) : Prop where
  x1 : -2097152 ≤ x
  x2 : x ≤ 2097152
  y1 : -2097152 ≤ y
  y2 : y ≤ 2097152
  v1 : -131072 ≤ v
  v2 : v ≤ 131072
  w1 : -131072 ≤ w
  w2 : w ≤ 131072
  h1 : 1 ≤ h
  h2 : h ≤ 4096
  t1 : 0 ≤ t
  t2 : t ≤ h
structure Fac (h t : Int) : Prop where
  a0 : 0 ≤ pA h t
  a1 : pA h t ≤ h * h * h
  b0 : 0 ≤ pB h t
  b1 : pB h t ≤ h * h * h * 4096
  c0 : 0 ≤ pC h t
  c1 : pC h t ≤ h * h * h
  d0 : -(h * h * h * 4096) ≤ pD h t
  d1 : pD h t ≤ 0
theorem fac {h t : Int} (h1 : 1 ≤ h) (h2 : h ≤ 4096) (t1 : 0 ≤ t) (t2 : t ≤ h) : Fac h t := by
  have l0 : 0 ≤ h - t := by omega
  have ll : 0 ≤ (h - t) * (h - t) := Int.mul_nonneg l0 l0
  have tt : 0 ≤ t * t := Int.mul_nonneg t1 t1
  have ea : pA h t = (h - t) * (h - t) * (h + 2 * t) := by unfold pA; grind
  have a0 : 0 ≤ pA h t := by rw [ea]; exact Int.mul_nonneg ll (by omega)
  have c0 : 0 ≤ pC h t := by unfold pC; exact Int.mul_nonneg tt (by omega)
  have s := p_sum h t
  have b0 : 0 ≤ pB h t := by unfold pB; exact Int.mul_nonneg (Int.mul_nonneg (Int.mul_nonneg t1 l0) l0) (by omega)
  have d0 : 0 ≤ t * t * (h - t) * h := Int.mul_nonneg (Int.mul_nonneg tt l0) (by omega)
  have k1 : t * (h - t) ≤ h * h := Int.mul_le_mul t2 (by omega) l0 (by omega)
  have k2 : t * (h - t) * (h - t) ≤ h * h * h := Int.mul_le_mul k1 (by omega) l0 (Int.mul_nonneg (by omega) (by omega))
  have hhh : 0 ≤ h * h * h := Int.mul_nonneg (Int.mul_nonneg (by omega) (by omega)) (by omega)
  have k3 : t * (h - t) * (h - t) * h ≤ h * h * h * 4096 := Int.mul_le_mul k2 h2 (by omega) hhh
  have m1 : t * t ≤ h * h := Int.mul_le_mul t2 t2 t1 (by omega)
  have m2 : t * t * (h - t) ≤ h * h * h := Int.mul_le_mul m1 (by omega) l0 (Int.mul_nonneg (by omega) (by omega))
  have m3 : t * t * (h - t) * h ≤ h * h * h * 4096 := Int.mul_le_mul m2 h2 (by omega) hhh
  exact ⟨a0, by omega, b0, by unfold pB; exact k3, c0, by omega, by unfold pD; omega, by unfold pD; omega⟩
theorem pS_in {x v y w h t : Int} (m : May x v y w h t) : -(h * h * h * 2147483648) ≤ pS x v y w h t ∧ pS x v y w h t ≤ h * h * h * 2147483648 := by
  have f := fac m.h1 m.h2 m.t1 m.t2
  have hc := cube m.h1 m.h2
  have a := mulb (a := pA h t) (A := h * h * h) (by have := f.a0; omega) f.a1 m.x1 m.x2
  have b := mulb (a := pB h t) (A := h * h * h * 4096) (by have := f.b0; omega) f.b1 m.v1 m.v2
  have c := mulb (a := pC h t) (A := h * h * h) (by have := f.c0; omega) f.c1 m.y1 m.y2
  have d := mulb (a := pD h t) (A := h * h * h * 4096) f.d0 (by have := f.d1; omega) m.w1 m.w2
  unfold pS
  generalize h * h * h = D at *
  omega
theorem place_in {x v y w h t : Int} (m : May x v y w h t) : -2147483648 ≤ place x v y w h t ∧ place x v y w h t ≤ 2147483648 := by
  have hc := cube m.h1 m.h2
  have s := pS_in m
  have n := nq_two (a := pS x v y w h t) (b := h * h * h) (by omega)
  unfold place
  generalize pS x v y w h t = S at *
  generalize h * h * h = D at *
  generalize nq S D = p at *
  have u1 : (2 * p - 1) * D ≤ 4294967296 * D := by omega
  have u2 : -4294967296 * D ≤ (2 * p + 1) * D := by omega
  have v1 := Int.le_of_mul_le_mul_right u1 (by omega)
  have v2 := Int.le_of_mul_le_mul_right u2 (by omega)
  omega
structure Fas (h t : Int) : Prop where
  a : -(h * h * h * 6) ≤ qA h t ∧ qA h t ≤ h * h * h * 6
  b : -(h * h * h * 2) ≤ qB h t ∧ qB h t ≤ h * h * h * 2
  c : -(h * h * h * 6) ≤ qC h t ∧ qC h t ≤ h * h * h * 6
  d : -(h * h * h * 2) ≤ qD h t ∧ qD h t ≤ h * h * h * 2
theorem fas {h t : Int} (h1 : 1 ≤ h) (t1 : 0 ≤ t) (t2 : t ≤ h) : Fas h t := by
  have k := mulb (a := t) (b := h - t) (A := h) (B := h) (by omega) t2 (by omega) (by omega)
  have hh : 0 ≤ h * h := Int.mul_nonneg (by omega) (by omega)
  have g : h * h ≤ h * h * h := by
    have : h * h * 1 ≤ h * h * h := Int.mul_le_mul_of_nonneg_left h1 hh
    omega
  have e1 : qC h t = 6 * (t * (h - t)) := by unfold qC; grind
  have e2 : qA h t = -(6 * (t * (h - t))) := by unfold qA; grind
  have b1 := mulb (a := h - t) (b := h - 3 * t) (A := h) (B := 2 * h) (by omega) (by omega) (by omega) (by omega)
  have b2 := mulb (a := (h - t) * (h - 3 * t)) (b := h) (A := h * (2 * h)) (B := h) b1.1 b1.2 (by omega) (by omega)
  have d1 := mulb (a := t) (b := 3 * t - 2 * h) (A := h) (B := 2 * h) (by omega) (by omega) (by omega) (by omega)
  have d2 := mulb (a := t * (3 * t - 2 * h)) (b := h) (A := h * (2 * h)) (B := h) d1.1 d1.2 (by omega) (by omega)
  have e3 : h * (2 * h) * h = h * h * h * 2 := by grind
  rw [e3] at b2 d2
  exact ⟨by rw [e2]; omega, b2, by rw [e1]; omega, d2⟩
theorem qS_in {x v y w h t : Int} (m : May x v y w h t) : -(h * h * h * 33554432) ≤ qS x v y w h t ∧ qS x v y w h t ≤ h * h * h * 33554432 := by
  have f := fas m.h1 m.t1 m.t2
  have hc := cube m.h1 m.h2
  have a := mulb f.a.1 f.a.2 m.x1 m.x2
  have b := mulb f.b.1 f.b.2 m.v1 m.v2
  have c := mulb f.c.1 f.c.2 m.y1 m.y2
  have d := mulb f.d.1 f.d.2 m.w1 m.w2
  unfold qS
  generalize h * h * h = D at *
  omega
theorem nq_in {S D M : Int} (hD : 0 < D) (h : -(D * M) ≤ S ∧ S ≤ D * M) : -M ≤ nq S D ∧ nq S D ≤ M := by
  have n := nq_two (a := S) hD
  generalize nq S D = p at *
  have e1 : D * M = M * D := Int.mul_comm _ _
  rw [e1] at h
  have e2 : 2 * M * D = 2 * (M * D) := Int.mul_assoc _ _ _
  have e3 : -(2 * M) * D = -(2 * (M * D)) := by rw [Int.neg_mul, e2]
  have u1 : (2 * p - 1) * D ≤ 2 * M * D := by rw [e2]; omega
  have u2 : -(2 * M) * D ≤ (2 * p + 1) * D := by rw [e3]; omega
  have v1 := Int.le_of_mul_le_mul_right u1 hD
  have v2 := Int.le_of_mul_le_mul_right u2 hD
  omega
theorem speed_in {x v y w h t : Int} (m : May x v y w h t) : -33554432 ≤ speed x v y w h t ∧ speed x v y w h t ≤ 33554432 := nq_in (by have := cube m.h1 m.h2; omega) (qS_in m)
end Go.He
