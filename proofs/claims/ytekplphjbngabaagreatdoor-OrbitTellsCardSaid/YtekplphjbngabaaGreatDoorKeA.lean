/-
 Chapter 20, plain: the gap at a point, its width, that it rises.
-/
import Derived.Test.YtekplphjbngabaaGreatDoorWva
set_option maxRecDepth 100000
namespace Go.Ke
open Go Go.Qt Go.Iv Go.An Go.Wv
def gapI (m e p : Int) : Iv := subI (subI (pointI p) (mulI (pointI e) (waveI false (pointI p)))) (pointI m)
def gap0 (e p : Int) : Iv := subI (pointI p) (mulI (pointI e) (waveI false (pointI p)))
structure May (m e p : Int) : Prop where
 m1 : 0 ≤ m
 m2 : m ≤ 3221225472
 e1 : 0 ≤ e
 e2 : e ≤ 966367641
 p1 : -1073741824 ≤ p
 p2 : p ≤ 4294967296
structure Gp (m e p : Int) : Prop where
 f : fine (gapI m e p) = true
 g0 : fine (gap0 e p) = true
 k : gapI m e p = ⟨(gap0 e p).lo - m, (gap0 e p).hi - m, false⟩
 w : (gap0 e p).hi - (gap0 e p).lo ≤ 55
 l : -8589934592 ≤ (gap0 e p).lo
 u : (gap0 e p).hi ≤ 8589934592
 h : Hd (gap0 e p) ((p : Rat) - (e : Rat) * (1073741824 * sR false (xr p)) / 1073741824)
theorem gp {m e p : Int} (h : May m e p) : Gp m e p := by
 have p1 := h.p1
 have p2 := h.p2
 have e1 := h.e1
 have e2 := h.e2
 have m1 := h.m1
 have m2 := h.m2
 have hf := point_far (n := p) (by omega) (by omega)
 have wf := wave_facts false hf
 have ww := wave_wide false hf
 have mp := mid_point (n := p) (by omega) (by omega)
 rw [mp.2] at ww
 have hs := wf.m
 rw [mp.1] at hs
 have bs : Bd (waveI false (pointI p)) 1073741824 := ⟨wf.f, wf.l1, wf.h1⟩
 have he := hd_point (n := e) (by omega) (by omega)
 have be : Bd (pointI e) 966367641 := bd_point (by omega) (by omega) (by decide)
 have b := Bd.mul (k := 966367641) be bs (by decide) (by decide)
 have bg := (fine_iff.1 b.1.f).1
 have bw := mul_wide (w := 0) (e := 60) (j := 54) be bs (by rw [he.1]; simp) (by omega) (by decide) bg
 have hm := hd_mul bg (hd_pt (n := e) (by omega) (by omega)) hs
 have hp := hd_point (n := p) (by omega) (by omega)
 have l := b.1.l
 have u := b.1.h
 have pl : (pointI p).lo = p := by rw [hp.1]
 have pu : (pointI p).hi = p := by rw [hp.1]
 have s := sub_ok hp.2 b.1.f (by omega) (by omega)
 have sg : fine (gap0 e p) = true := s.2
 have gl : (gap0 e p).lo = p - (mulI (pointI e) (waveI false (pointI p))).hi := by unfold gap0; rw [s.1]; show (pointI p).lo - _ = _; rw [pl]
 have gu : (gap0 e p).hi = p - (mulI (pointI e) (waveI false (pointI p))).lo := by unfold gap0; rw [s.1]; show (pointI p).hi - _ = _; rw [pu]
 have hd := hd_sub (fine_iff.1 sg).1 (hd_pt (n := p) (by omega) (by omega)) hm
 have hq := hd_point (n := m) (by omega) (by omega)
 have ml : (pointI m).lo = m := by rw [hq.1]
 have mu : (pointI m).hi = m := by rw [hq.1]
 have t := sub_ok sg hq.2 (by omega) (by omega)
 have te : gapI m e p = ⟨(gap0 e p).lo - m, (gap0 e p).hi - m, false⟩ := by
  have := t.1
  rw [ml, mu] at this
  exact this
 exact ⟨t.2, sg, te, by omega, by omega, by omega, hd⟩
theorem rises {m e p q : Int} (h : May m e p) (k : May m e q) (hpq : p ≤ q) : (gapI m e p).lo ≤ (gapI m e q).hi := by
 have a := gp h
 have b := gp k
 rw [a.k, b.k]
 have p1 := h.p1
 have p2 := h.p2
 have q1 := k.p1
 have q2 := k.p2
 have l := sR_lips (xr_in (n := q) (by omega) (by omega)) (xr_in (n := p) (by omega) (by omega)) false
 have d := xr_sub q p
 have he := eps_30
 have ha := a.h
 have hb := b.h
 have e1 := cle.2 h.e1
 have e2 := cle.2 h.e2
 have pq := cle.2 hpq
 unfold Hd at ha hb
 have key : (gap0 e p).lo ≤ (gap0 e q).hi := by
  refine int_le (t := 1 / 2) ?_ (by grind)
  have em : mx (q - p) (p - q) = q - p := by unfold mx; split <;> omega
  rw [em, Rat.intCast_sub] at d
  have l2 := l.2
  have ep := eps_pos
  have e0 : ((0 : Int) : Rat) = 0 := rfl
  have eM : ((966367641 : Int) : Rat) = 966367641 := rfl
  rw [e0] at e1
  rw [eM] at e2
  have B0 : 0 ≤ An.ab (xr q - xr p) + 12 * eps := by
   have : 0 ≤ An.ab (xr q - xr p) := by unfold An.ab; grind
   grind
  have k1 := Rat.mul_le_mul_of_nonneg_left l2 e1
  have k2 := Rat.mul_le_mul_of_nonneg_right e2 B0
  generalize An.ab (xr q - xr p) = A at *
  generalize sR false (xr p) = S at *
  generalize sR false (xr q) = T at *
  have x1 : (e : Rat) * (1073741824 * S) / 1073741824 = e * S := by grind
  have x2 : (e : Rat) * (1073741824 * T) / 1073741824 = e * T := by grind
  rw [x1] at ha
  rw [x2] at hb
  have x3 : (e : Rat) * (T - S) = e * T - e * S := by grind
  rw [x3] at k1
  generalize (e : Rat) * T = U at *
  generalize (e : Rat) * S = V at *
  generalize (e : Rat) * (A + 12 * eps) = X at *
  grind
 show (gap0 e p).lo - m ≤ (gap0 e q).hi - m
 omega
theorem gap_m {m e p : Int} (h : May m e p) : (gapI 0 e p).lo - (gapI m e p).lo = m ∧ (gapI 0 e p).hi - (gapI m e p).hi = m ∧ (gapI m e p).hi - (gapI m e p).lo ≤ 256 := by
 have a := gp h
 have b := gp (m := 0) (e := e) (p := p) ⟨by omega, by omega, h.e1, h.e2, h.p1, h.p2⟩
 have w := a.w
 rw [a.k, b.k]
 simp only
 omega
end Go.Ke
