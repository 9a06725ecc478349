/-
 Chapter 21, plain: sines near half a turn; the half axis' width; the circle.
-/
import Derived.Test.YtekplphjbngabaaGreatDoorOrA
set_option maxRecDepth 100000
namespace Go.Or
open Go Go.Nm Go.Wd Go.Qt Go.Iv Go.An Go.Wv Go.Nv Go.Rt Go.Ke
def p0 : Rat := 3373259427 / 1073741824
theorem p0_cs : (-(1 / 100000000) ≤ sinR p0 ∧ sinR p0 ≤ 1 / 100000000) ∧ (-1 - 1 / 100000000 ≤ cosR p0 ∧ cosR p0 ≤ -1 + 1 / 100000000) := by
 have hx : -4 ≤ p0 ∧ p0 ≤ 4 := by decide +kernel
 have a := rem_all (x := p0) (r := 1 / 1000000000000) hx false (by decide +kernel) (by decide +kernel)
 have b := rem_all (x := p0) (r := 1 / 1000000000) hx true (by decide +kernel) (by decide +kernel)
 have ea : -(9 / 1000000000) ≤ alt (fun j => ex p0 (ix false j)) 13 ∧ alt (fun j => ex p0 (ix false j)) 13 ≤ 9 / 1000000000 := by decide +kernel
 have eb : -1 - 8 / 1000000000 ≤ alt (fun j => ex p0 (ix true j)) 13 ∧ alt (fun j => ex p0 (ix true j)) 13 ≤ -1 + 8 / 1000000000 := by decide +kernel
 have fa : FR false p0 = sinR p0 := rfl
 have fb : FR true p0 = cosR p0 := rfl
 rw [fa] at a
 rw [fb] at b
 grind
theorem low_mul {s0 c0 sy cy S e : Rat} (hs : -(1 / 100000000) ≤ s0 ∧ s0 ≤ 1 / 100000000) (hc : -1 - 1 / 100000000 ≤ c0 ∧ c0 ≤ -1 + 1 / 100000000) (hcy : -2 ≤ cy ∧ cy ≤ 2) (hsy : -1203 ≤ 1073741824 * sy) (hS : s0 * cy + c0 * -sy - S ≤ e) (he : 1073741824 * e ≤ 1) : -1300 ≤ 1073741824 * S := by
 have t1 := (ab_mul_le (x := s0) (y := cy) hs hcy).1
 have a := Rat.mul_le_mul_of_nonneg_left hsy (show 0 ≤ -c0 by grind)
 have b := Rat.mul_le_mul_of_nonneg_left (show -c0 ≤ 1 + 1 / 100000000 by grind) (show (0 : Rat) ≤ 1203 by decide)
 have e1 : -c0 * (1073741824 * sy) = 1073741824 * (c0 * -sy) := by grind
 have e2 : -c0 * -1203 = -(1203 * -c0) := by grind
 rw [e1, e2] at a
 generalize c0 * -sy = v at *
 generalize s0 * cy = u at *
 generalize -c0 = w at *
 grind
theorem sin_part {y : Rat} (h1 : -1203 ≤ 1073741824 * y) (h2 : y ≤ 2) : -1203 ≤ 1073741824 * sinR y := by
 by_cases h : 0 ≤ y
 · have := (sin_le h h2).1
   grind
 · have := (sin_ab (h := y) ⟨by grind, by grind⟩).1
   have ea : An.ab y = -y := by unfold An.ab; rw [if_neg h]
   rw [ea] at this
   grind
theorem sin_p0 {x : Rat} (h1 : 1073741824 * (p0 - x) ≥ -1203) (h2 : p0 - x ≤ 2) : -1300 ≤ 1073741824 * sinR x := by
 have hp : -4 ≤ p0 ∧ p0 ≤ 4 := by decide +kernel
 have hy : -4 ≤ -(p0 - x) ∧ -(p0 - x) ≤ 4 := ⟨by grind, by grind⟩
 have hy' : -4 ≤ p0 - x ∧ p0 - x ≤ 4 := ⟨by grind, by grind⟩
 have ad := (add_cs hp hy).2.2
 have e1 : p0 + -(p0 - x) = x := by grind
 have ng := neg_cs (p0 - x)
 rw [e1, ng.1, ng.2] at ad
 have cb := (cs_le hy').1
 have e4 := eps_lt
 have e3 := eps_30
 have ep := eps_pos
 have P := p0_cs
 have sy := sin_part h1 h2
 exact low_mul P.1 P.2 ⟨by grind, by grind⟩ sy ad (by grind)
theorem sin_low {n : Int} (h1 : -2402 ≤ n) (h2 : n ≤ 3373260629) : -2410 ≤ 1073741824 * sR false (xr n) := by
 have c1 := cle.2 h1
 have c2 := cle.2 h2
 have k1 : ((-2402 : Int) : Rat) = -2402 := rfl
 have k2 : ((3373260629 : Int) : Rat) = 3373260629 := rfl
 rw [k1] at c1
 rw [k2] at c2
 have hx := xr_in (n := n) (by omega) (by omega)
 have ns := (sR_near hx false).1
 have ep := eps_pos
 have e3 := eps_30
 have fa : FR false (xr n) = sinR (xr n) := rfl
 rw [fa] at ns
 have ex : xr n = (n : Rat) / 1073741824 := rfl
 have em : 1073741824 * xr n = n := by rw [ex]; grind
 clear ex
 have k0 : ((0 : Int) : Rat) = 0 := rfl
 have key : -2405 ≤ 1073741824 * sinR (xr n) := by
  rcases Int.lt_or_le n 0 with hn | hn
  · have := (sin_ab hx).1
    have c0 := cle.2 (show n ≤ 0 by omega)
    rw [k0] at c0
    generalize xr n = x at *
    clear ns fa e3 ep
    have ea : An.ab x = -x ∨ x = 0 := by
     unfold An.ab
     split
     · exact .inr (by grind)
     · exact .inl rfl
    rcases ea with ea | ea
    · rw [ea] at this; grind
    · subst ea
      have : An.ab 0 = 0 := rfl
      grind
  · rcases Int.lt_or_le n 2147483649 with hm | hm
    · have c0 := cle.2 hn
      have cu := cle.2 (show n ≤ 2147483648 by omega)
      have ku : ((2147483648 : Int) : Rat) = 2147483648 := rfl
      rw [k0] at c0
      rw [ku] at cu
      generalize xr n = x at *
      clear ns fa e3 ep
      have := (sin_le (h := x) (by grind) (by grind)).1
      grind
    · have cl := cle.2 (show 2147483648 ≤ n by omega)
      have ku : ((2147483648 : Int) : Rat) = 2147483648 := rfl
      rw [ku] at cl
      generalize xr n = x at *
      clear ns fa e3 ep
      have ep0 : p0 = 3373259427 / 1073741824 := rfl
      have := sin_p0 (x := x) (by rw [ep0]; grind) (by rw [ep0]; grind)
      grind
 generalize sR false (xr n) = s at *
 generalize sinR (xr n) = t at *
 clear c1 c2 em hx fa
 grind
theorem root_wide {e : Int} (e1 : 0 ≤ e) (e2 : e ≤ 966367641) : (rootI (qE e)).hi - (rootI (qE e)).lo ≤ 3 := by
 have q := qf_ e1 e2
 have rq := fine_iff.1 q.f
 have ql := q.l
 have qu := q.u
 have m := root_mk q.f (by omega)
 have hw : (qE e).hi - (qE e).lo ≤ 1 := by
  have hp := hd_point (n := e) (by omega) (by omega)
  have ee : e * e ≤ 966367641 * 966367641 := Int.mul_le_mul e2 e2 e1 (by omega)
  have e0 : 0 ≤ e * e := Int.mul_nonneg e1 e1
  have mo : most (pointI e) = e := by rw [hp.1]; unfold most; show mx e (-e) = e; unfold mx; split <;> omega
  have le : least (pointI e) = e := by rw [hp.1]; unfold least; show mx (mx e (-e)) 0 = e; unfold mx; split <;> split <;> omega
  have s := square_mk hp.2 (by rw [mo]; omega)
  rw [mo, le] at s
  have one := one_eq
  have f1 : fine (ofI 1) = true := by rw [one]; rfl
  have fs : cq (e * e) 1073741824 ≤ fq (e * e) 1073741824 + 1 := by unfold cq; split <;> omega
  have hc2 := (Iv.cq_le (k := 869730877) (p := e * e) (d := 1073741824) (by decide)).2 (by omega)
  have hb2 := (Iv.le_fq (k := 0) (p := e * e) (d := 1073741824) (by decide)).2 (by omega)
  have t := sub_ok f1 s.2 (by rw [one, s.1]; show -1152921504606846976 ≤ 1073741824 - cq (e * e) 1073741824; omega) (by rw [one, s.1]; show 1073741824 - fq (e * e) 1073741824 ≤ _; omega)
  have eq : qE e = ⟨1073741824 - cq (e * e) 1073741824, 1073741824 - fq (e * e) 1073741824, false⟩ := by
   unfold qE; rw [t.1, one, s.1]
  rw [eq]
  show 1073741824 - fq (e * e) 1073741824 - (1073741824 - cq (e * e) 1073741824) ≤ 1
  omega
 have i1 := rt_is (a := (qE e).lo * 1073741824) (by omega) (by simp only [HH]; omega)
 have i2 := rc_is (a := (qE e).hi * 1073741824) (by omega) (by simp only [HH]; omega)
 rw [m.1]
 show rc ((qE e).hi * 1073741824) - rt ((qE e).lo * 1073741824) ≤ 3
 obtain ⟨l0, l1, l2⟩ := i1
 have r0 := i2.1
 have r1 := i2.2.2 (rc ((qE e).hi * 1073741824) - 1)
 generalize rt ((qE e).lo * 1073741824) = l at *
 generalize rc ((qE e).hi * 1073741824) = h at *
 rcases Int.lt_or_le 3 (h - l) with g | g
 · exfalso
   have a1 : 468000000 ≤ l := by
    rcases Int.lt_or_le l 468000000 with k | k
    · exfalso
      have : (l + 1) * (l + 1) ≤ 468000000 * 468000000 := Int.mul_le_mul (by omega) (by omega) (by omega) (by decide)
      omega
    · exact k
   have a2 : ¬ (qE e).hi * 1073741824 ≤ (h - 1) * (h - 1) := fun c => by
    have := r1 (by omega) c
    omega
   have a3 : (l + 3) * (l + 3) ≤ (h - 1) * (h - 1) := Int.mul_le_mul (by omega) (by omega) (by omega) (by omega)
   have a4 : (l + 3) * (l + 3) = (l + 1) * (l + 1) + 4 * l + 8 := by grind
   omega
 · exact g
theorem el0 {w : Iv} (hw : holdsI (around 4294967296) w = true) : holdsI (addI (mulI (waveI true w) (waveI true w)) (mulI (tE 0 w) (tE 0 w))) (ofI 1) = true := by
 unfold tE
 obtain ⟨fa, b1, b2⟩ := holds_far hw
 obtain ⟨m1, m2, _⟩ := mid_spec fa
 have S := sf_ (e := 0) (by omega) (by omega)
 obtain ⟨r, hr, r1, r2⟩ := S.r
 have q0 : QR 0 = 1073741824 := by
  unfold QR
  have : ((0 : Int) : Rat) = 0 := rfl
  rw [this]; grind
 rw [q0] at r1 r2
 have s := wave_facts false hw
 have c := wave_facts true hw
 have bs : Bd (waveI false w) 1073741824 := ⟨s.f, s.l1, s.h1⟩
 have hx := xr_in (n := midm w) (by omega) (by omega)
 have T := Bd.mul (k := 1073741824) S.b bs (by decide) (by decide)
 have hT := hd_mul (fine_iff.1 T.1.f).1 hr s.m
 have TT := Bd.mul (k := 1073741824) T.1 T.1 (by decide) (by decide)
 have hTT := hd_mul (fine_iff.1 TT.1.f).1 hT hT
 have CC := sq_hd c.f c.l1 c.h1 c.m c.f c.l1 c.h1 c.m
 have ad := add_two CC.1 TT.1
 have g := hd_add (fine_iff.1 ad.2).1 CC.2 hTT
 have ns := sR_near hx false
 have nc := sR_near hx true
 have n1 := near_mul ns ns
 have n2 := near_mul nc nc
 have o := one_cs hx
 have o' : 1 - eps ≤ FR true (xr (midm w)) * FR true (xr (midm w)) + FR false (xr (midm w)) * FR false (xr (midm w)) ∧ FR true (xr (midm w)) * FR true (xr (midm w)) + FR false (xr (midm w)) * FR false (xr (midm w)) ≤ 1 + eps := o
 have he := eps_30
 have ep := eps_pos
 have ee : eps = 54 * hp2 185 := rfl
 have co : ((1073741824 : Int) : Rat) = 1073741824 := rfl
 unfold Hd at g
 rw [one_eq]
 generalize sR false (xr (midm w)) = s' at *
 generalize sR true (xr (midm w)) = c' at *
 generalize FR false (xr (midm w)) = F at *
 generalize FR true (xr (midm w)) = G at *
 generalize hp2 185 = u at *
 have ss : 0 ≤ s' * s' ∧ s' * s' ≤ 1 := by
  have a := ab_mul_le (x := s') (y := s') (a := 1) (b := 1) (by grind) (by grind)
  refine ⟨?_, by grind⟩
  by_cases h : 0 ≤ s'
  · exact Rat.mul_nonneg h h
  · have := Rat.mul_nonneg (show 0 ≤ -s' by grind) (show 0 ≤ -s' by grind); grind
 have val : r * (1073741824 * s') / 1073741824 * (r * (1073741824 * s') / 1073741824) / 1073741824 = (r * r) * (s' * s') / 1073741824 := by
  have : r * (1073741824 * s') / 1073741824 = r * s' := by grind
  rw [this]; grind
 rw [val] at g
 have v1 : (r * r) * (s' * s') / 1073741824 ≤ 1073741824 * (s' * s') := by
  refine div_le (by decide) ?_
  have := Rat.mul_le_mul_of_nonneg_right (show r * r ≤ 1073741824 * 1073741824 by grind) ss.1
  grind
 have v2 : 1073741824 * (s' * s') - 1073741824 * (12 * eps) ≤ (r * r) * (s' * s') / 1073741824 := by
  refine div_ge (by decide) ?_
  have a := Rat.mul_le_mul_of_nonneg_right (show 1073741824 * 1073741824 - 9223372036854775808 * u ≤ r * r by grind) ss.1
  have b := Rat.mul_le_mul_of_nonneg_left ss.2 (show 0 ≤ 9223372036854775808 * u by grind)
  grind
 generalize (r * r) * (s' * s') / 1073741824 = V at *
 refine holds_mk ad.2 (by decide) ?_ ?_
 · exact int_le (t := 1 / 2) (by rw [co]; grind) (by grind)
 · exact int_le (t := 1 / 2) (by rw [co]; grind) (by grind)
end Go.Or
