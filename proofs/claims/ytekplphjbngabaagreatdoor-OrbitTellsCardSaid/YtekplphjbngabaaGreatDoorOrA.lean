/-
 Chapter 21, plain: exact parts, roots that are near, quotients that hold; the ellipse.
-/
import Derived.Test.YtekplphjbngabaaGreatDoorKeB
set_option maxRecDepth 100000
namespace Go.Or
open Go Go.Nm Go.Wd Go.Qt Go.Iv Go.An Go.Wv Go.Nv Go.Rt
theorem fq_own {k d : Int} (h : 0 < d) : fq (k * d) d = k ∧ cq (k * d) d = k := by
 have f : fq (k * d) d = k := by unfold fq; rw [if_pos h]; exact Int.mul_ediv_cancel k (by omega)
 have r : fr (k * d) d = 0 := by unfold fr; rw [if_pos h]; exact Int.mul_emod_left k d
 exact ⟨f, by unfold cq; rw [if_pos r, f]⟩
theorem part_exact {x : Iv} {n d L H : Int} (fx : fine x = true) (hn : I64 n) (hd : I64 d) (h0 : 0 < d) (eL : x.lo * n = L * d) (eH : x.hi * n = H * d) (hl : -1152921504606846976 ≤ L) (hu : H ≤ 1152921504606846976) (hLH : L ≤ H) :
 partI x n d = ⟨L, H, false⟩ ∧ fine (partI x n d) = true := by
 have a := fq_own (k := L) h0
 have b := fq_own (k := H) h0
 have m := part_mk (l := L) (u := H) fx hn hd (by omega) hl hu (by rw [eL, a.1]; exact Int.le_refl _) (by rw [eH, b.1]; exact hLH) (by rw [eL, a.2]; exact hLH) (by rw [eH, b.2]; exact Int.le_refl _)
 have g := (fine_iff.1 m.1).1
 have f := part_facts hn hd g
 have f1 := f.2.2.2.1.1
 have f2 := f.2.2.2.2.2
 rw [eL, a.1] at f1
 rw [eH, b.2] at f2
 have e1 : (partI x n d).lo = L := by have := m.2.1; omega
 have e2 : (partI x n d).hi = H := by have := m.2.2; omega
 refine ⟨?_, m.1⟩
 cases hp : partI x n d with
 | mk l u c =>
  rw [hp] at e1 e2 g
  simp only at e1 e2 g
  rw [e1, e2, g]
theorem rsqrt {A l h : Rat} (h0 : 0 ≤ l) (hl : l * l ≤ A) (hh : A ≤ h * h) (lh : l ≤ h) : ∀ k : Nat, ∃ x y : Rat, l ≤ x ∧ x ≤ y ∧ y ≤ h ∧ x * x ≤ A ∧ A ≤ y * y ∧ y - x = (h - l) * hp2 k
 | 0 => ⟨l, h, by grind, lh, by grind, hl, hh, by show h - l = (h - l) * 1; grind⟩
 | k + 1 => by
  obtain ⟨x, y, h1, h2, h3, h4, h5, h6⟩ := rsqrt h0 hl hh lh k
  have e : hp2 (k + 1) = hp2 k * (1 / 2) := rfl
  by_cases c : ((x + y) / 2) * ((x + y) / 2) ≤ A
  · exact ⟨(x + y) / 2, y, by grind, by grind, h3, c, h5, by rw [e]; grind⟩
  · exact ⟨x, (x + y) / 2, h1, by grind, by grind, h4, by grind, by rw [e]; grind⟩
theorem hd_quot {a b : Iv} {x y : Rat} (h : (quotI a b).bad = false) (hb : 0 < b.lo) (ha : Hd a x) (hy : Hd b y) : Hd (quotI a b) (x * 1073741824 / y) := by
 obtain ⟨fa, fb, _, _, e⟩ := quot_good h
 have rb := fine_iff.1 fb
 have bh : 0 < b.hi := by omega
 obtain ⟨⟨⟨l1, l2⟩, l3⟩, l4⟩ := loQ_ge.1 (Int.le_refl (loQ a b))
 obtain ⟨⟨⟨u1, u2⟩, u3⟩, u4⟩ := hiQ_le.1 (Int.le_refl (hiQ a b))
 have l1 := cle.2 ((le_qf.1 hb).1 l1)
 have l2 := cle.2 ((le_qf.1 bh).1 l2)
 have u3 := cle.2 ((qc_le.1 hb).1 u3)
 have u4 := cle.2 ((qc_le.1 bh).1 u4)
 rw [Rat.intCast_mul, Rat.intCast_mul] at l1 l2 u3 u4
 have co : ((1073741824 : Int) : Rat) = 1073741824 := rfl
 rw [co] at l1 l2 u3 u4
 have yp : 0 < y := by
  have : ((1 : Int) : Rat) ≤ (b.lo : Rat) := cle.2 hb
  have c1 : ((1 : Int) : Rat) = 1 := rfl
  have := hy.1
  grind
 have a1 := lin_leR hy.1 hy.2 l1 l2
 have a2 := lin_geR hy.1 hy.2 u3 u4
 have x1 := ha.1
 have x2 := ha.2
 rw [e]
 exact ⟨div_ge yp (by show (loQ a b : Rat) * y ≤ _; grind), div_le yp (by show _ ≤ (hiQ a b : Rat) * y; grind)⟩
def qE (e : Int) : Iv := subI (ofI 1) (squareI (pointI e))
noncomputable def QR (e : Int) : Rat := 1073741824 - (e : Rat) * e / 1073741824
structure Qf (e : Int) : Prop where
 f : fine (qE e) = true
 l : 204010947 ≤ (qE e).lo
 u : (qE e).hi ≤ 1073741824
 h : Hd (qE e) (QR e)
theorem qf_ {e : Int} (e1 : 0 ≤ e) (e2 : e ≤ 966367641) : Qf e := by
 have hp := hd_point (n := e) (by omega) (by omega)
 have ee : e * e ≤ 966367641 * 966367641 := Int.mul_le_mul e2 e2 e1 (by omega)
 have e0 : 0 ≤ e * e := Int.mul_nonneg e1 e1
 have mo : most (pointI e) = e := by rw [hp.1]; unfold most; show mx e (-e) = e; unfold mx; split <;> omega
 have le : least (pointI e) = e := by rw [hp.1]; unfold least; show mx (mx e (-e)) 0 = e; unfold mx; split <;> split <;> omega
 have m := square_mk hp.2 (by rw [mo]; omega)
 rw [mo, le] at m
 have hb := Iv.le_fq (k := fq (e * e) 1073741824) (p := e * e) (d := 1073741824) (by decide)
 have hc := Iv.cq_le (k := cq (e * e) 1073741824) (p := e * e) (d := 1073741824) (by decide)
 have hb := hb.1 (Int.le_refl _)
 have hc := hc.1 (Int.le_refl _)
 have hc2 := (Iv.cq_le (k := 869730877) (p := e * e) (d := 1073741824) (by decide)).2 (by omega)
 have hb2 := (Iv.le_fq (k := 0) (p := e * e) (d := 1073741824) (by decide)).2 (by omega)
 have one := one_eq
 have f1 : fine (ofI 1) = true := by rw [one]; rfl
 have fs := fq_le_cq (e * e) 1073741824
 have s := sub_ok f1 m.2 (by rw [one, m.1]; show -1152921504606846976 ≤ 1073741824 - cq (e * e) 1073741824; omega) (by rw [one, m.1]; show 1073741824 - fq (e * e) 1073741824 ≤ _; omega)
 have eq : qE e = ⟨1073741824 - cq (e * e) 1073741824, 1073741824 - fq (e * e) 1073741824, false⟩ := by
  unfold qE; rw [s.1, one, m.1]
 have k1 := cle.2 hb
 have k2 := cle.2 hc
 rw [Rat.intCast_mul, Rat.intCast_mul] at k1 k2
 have co : ((1073741824 : Int) : Rat) = 1073741824 := rfl
 rw [co] at k1 k2
 refine ⟨s.2, by rw [eq]; show 204010947 ≤ 1073741824 - cq (e * e) 1073741824; omega, by rw [eq]; show 1073741824 - fq (e * e) 1073741824 ≤ _; omega, ?_⟩
 rw [eq]
 unfold Hd QR
 show ((1073741824 - cq (e * e) 1073741824 : Int) : Rat) ≤ _ ∧ _ ≤ ((1073741824 - fq (e * e) 1073741824 : Int) : Rat)
 rw [Rat.intCast_sub, Rat.intCast_sub, co]
 constructor <;> grind
structure Sf (e : Int) : Prop where
 b : Bd (rootI (qE e)) 1073741824
 l0 : 0 ≤ (rootI (qE e)).lo
 r : ∃ r : Rat, Hd (rootI (qE e)) r ∧ 0 ≤ QR e * 1073741824 - r * r ∧ QR e * 1073741824 - r * r ≤ 9223372036854775808 * hp2 185
theorem sf_ {e : Int} (e1 : 0 ≤ e) (e2 : e ≤ 966367641) : Sf e := by
 have q := qf_ e1 e2
 have rq := fine_iff.1 q.f
 have ql := q.l
 have qu := q.u
 have m := root_mk q.f (by omega)
 have ok := (fine_iff.1 m.2).1
 have i1 := root_in ok (x := (qE e).lo) (Int.le_refl _) rq.2.2.1
 have i2 := root_in ok (x := (qE e).hi) rq.2.2.1 (Int.le_refl _)
 have hu : (rootI (qE e)).hi ≤ 1073741824 := by
  rw [m.1]
  have r := rc_is (a := (qE e).hi * 1073741824) (by omega) (by simp only [HH]; omega)
  exact r.2.2 1073741824 (by decide) (by omega)
 have lh := (fine_iff.1 m.2).2.2.1
 have b : Bd (rootI (qE e)) 1073741824 := ⟨m.2, by have := i1.1; omega, hu⟩
 have A1 := cle.2 i1.2.2.1
 have A2 := cle.2 i2.2.2.2
 rw [Rat.intCast_mul, Rat.intCast_mul] at A1 A2
 have co : ((1073741824 : Int) : Rat) = 1073741824 := rfl
 rw [co] at A1 A2
 have h1 := q.h.1
 have h2 := q.h.2
 have z := cle.2 i1.1
 have c0 : ((0 : Int) : Rat) = 0 := rfl
 rw [c0] at z
 have zl := cle.2 lh
 have zu := cle.2 hu
 rw [co] at zu
 obtain ⟨x, y, g1, g2, g3, g4, g5, g6⟩ := rsqrt (A := QR e * 1073741824) (l := ((rootI (qE e)).lo : Rat)) (h := ((rootI (qE e)).hi : Rat)) z (by grind) (by grind) zl 185
 refine ⟨b, i1.1, x, ⟨g1, by grind⟩, by grind, ?_⟩
 have hp := hp2_pos 185
 have d1 : y * y - x * x = (y - x) * (y + x) := by grind
 have s1 : y - x ≤ 1073741824 * hp2 185 := by
  rw [g6]
  exact Rat.mul_le_mul_of_nonneg_right (by grind) (Rat.le_of_lt hp)
 have s2 : (y - x) * (y + x) ≤ (1073741824 * hp2 185) * (y + x) := Rat.mul_le_mul_of_nonneg_right s1 (by grind)
 have s3 : (1073741824 * hp2 185) * (y + x) ≤ (1073741824 * hp2 185) * 8589934592 := Rat.mul_le_mul_of_nonneg_left (by grind) (by grind)
 grind
def tE (e : Int) (w : Iv) : Iv := mulI (rootI (qE e)) (waveI false w)
structure El (e : Int) (w : Iv) : Prop where
 t : Bd (tE e w) 1073741824
 h : holdsI (addI (mulI (waveI true w) (waveI true w)) (quotI (mulI (tE e w) (tE e w)) (qE e))) (ofI 1) = true
theorem el {e : Int} (e1 : 0 ≤ e) (e2 : e ≤ 966367641) {w : Iv} (hw : holdsI (around 4294967296) w = true) : El e w := by
 obtain ⟨fa, b1, b2⟩ := holds_far hw
 obtain ⟨m1, m2, _⟩ := mid_spec fa
 have q := qf_ e1 e2
 have S := sf_ e1 e2
 obtain ⟨r, hr, r1, r2⟩ := S.r
 have s := wave_facts false hw
 have c := wave_facts true hw
 have bs : Bd (waveI false w) 1073741824 := ⟨s.f, s.l1, s.h1⟩
 have hx := xr_in (n := midm w) (by omega) (by omega)
 have T := Bd.mul (k := 1073741824) S.b bs (by decide) (by decide)
 have hT := hd_mul (fine_iff.1 T.1.f).1 hr s.m
 have TT := Bd.mul (k := 1073741824) T.1 T.1 (by decide) (by decide)
 have hTT := hd_mul (fine_iff.1 TT.1.f).1 hT hT
 have CC := sq_hd c.f c.l1 c.h1 c.m c.f c.l1 c.h1 c.m
 have rT := fine_iff.1 TT.1.f
 have tl := TT.1.l
 have th := TT.1.h
 have rq := fine_iff.1 q.f
 have ql := q.l
 have qu := q.u
 have lo : -8589934592 ≤ loQ (mulI (tE e w) (tE e w)) (qE e) := by
  refine loQ_ge.2 ⟨⟨⟨?_, ?_⟩, ?_⟩, ?_⟩
  · exact (le_qf.1 (by omega)).2 (by show _ ≤ (mulI (tE e w) (tE e w)).lo * _; unfold tE; omega)
  · exact (le_qf.1 (by omega)).2 (by show _ ≤ (mulI (tE e w) (tE e w)).lo * _; unfold tE; omega)
  · exact (le_qf.1 (by omega)).2 (by show _ ≤ (mulI (tE e w) (tE e w)).hi * _; unfold tE; omega)
  · exact (le_qf.1 (by omega)).2 (by show _ ≤ (mulI (tE e w) (tE e w)).hi * _; unfold tE; omega)
 have hi : hiQ (mulI (tE e w) (tE e w)) (qE e) ≤ 8589934592 := by
  refine hiQ_le.2 ⟨⟨⟨?_, ?_⟩, ?_⟩, ?_⟩
  · exact (qc_le.1 (by omega)).2 (by show (mulI (tE e w) (tE e w)).lo * _ ≤ _; unfold tE; omega)
  · exact (qc_le.1 (by omega)).2 (by show (mulI (tE e w) (tE e w)).lo * _ ≤ _; unfold tE; omega)
  · exact (qc_le.1 (by omega)).2 (by show (mulI (tE e w) (tE e w)).hi * _ ≤ _; unfold tE; omega)
  · exact (qc_le.1 (by omega)).2 (by show (mulI (tE e w) (tE e w)).hi * _ ≤ _; unfold tE; omega)
 have Q := quot_mk (a := mulI (tE e w) (tE e w)) (b := qE e) TT.1.f q.f (.inl (by omega)) (by omega) (by omega)
 have hQ := hd_quot (fine_iff.1 Q.2).1 (by omega) hTT q.h
 have cl := CC.1.l
 have cu := CC.1.h
 have qlo : -8589934592 ≤ (quotI (mulI (tE e w) (tE e w)) (qE e)).lo := by rw [Q.1]; exact lo
 have qhi : (quotI (mulI (tE e w) (tE e w)) (qE e)).hi ≤ 8589934592 := by rw [Q.1]; exact hi
 have ad := add_ok CC.1.f Q.2 (by omega) (by omega)
 have g := hd_add (fine_iff.1 ad.2).1 CC.2 hQ
 have ns := sR_near hx false
 have nc := sR_near hx true
 have n1 := near_mul ns ns
 have n2 := near_mul nc nc
 have o := one_cs hx
 have o' : 1 - eps ≤ FR true (xr (midm w)) * FR true (xr (midm w)) + FR false (xr (midm w)) * FR false (xr (midm w)) ∧ FR true (xr (midm w)) * FR true (xr (midm w)) + FR false (xr (midm w)) * FR false (xr (midm w)) ≤ 1 + eps := o
 have he := eps_30
 have ep := eps_pos
 have ee : eps = 54 * hp2 185 := rfl
 have co : ((1073741824 : Int) : Rat) = 1073741824 := rfl
 have cl' : ((204010947 : Int) : Rat) = 204010947 := rfl
 have qp : 204010947 ≤ QR e := by have := cle.2 ql; rw [cl'] at this; have := q.h.1; grind
 refine ⟨T.1, ?_⟩
 unfold Hd at g
 rw [one_eq]
 generalize sR false (xr (midm w)) = s' at *
 generalize sR true (xr (midm w)) = c' at *
 generalize FR false (xr (midm w)) = F at *
 generalize FR true (xr (midm w)) = G at *
 generalize QR e = q' at *
 generalize hp2 185 = u at *
 have ss : 0 ≤ s' * s' ∧ s' * s' ≤ 1 := by
  have a := ab_mul_le (x := s') (y := s') (a := 1) (b := 1) (by grind) (by grind)
  refine ⟨?_, by grind⟩
  by_cases h : 0 ≤ s'
  · exact Rat.mul_nonneg h h
  · have := Rat.mul_nonneg (show 0 ≤ -s' by grind) (show 0 ≤ -s' by grind); grind
 have val : r * (1073741824 * s') / 1073741824 * (r * (1073741824 * s') / 1073741824) / 1073741824 * 1073741824 / q' = (r * r) * (s' * s') / q' := by
  have : r * (1073741824 * s') / 1073741824 = r * s' := by grind
  rw [this]
  have : r * s' * (r * s') / 1073741824 * 1073741824 = (r * r) * (s' * s') := by grind
  rw [this]
 rw [val] at g
 have v1 : (r * r) * (s' * s') / q' ≤ 1073741824 * (s' * s') := by
  refine div_le (by grind) ?_
  have := Rat.mul_le_mul_of_nonneg_right (show r * r ≤ q' * 1073741824 by grind) ss.1
  grind
 have v2 : 1073741824 * (s' * s') - 1073741824 * (12 * eps) ≤ (r * r) * (s' * s') / q' := by
  refine div_ge (by grind) ?_
  have a := Rat.mul_le_mul_of_nonneg_right (show q' * 1073741824 - 9223372036854775808 * u ≤ r * r by grind) ss.1
  have b := Rat.mul_le_mul_of_nonneg_left ss.2 (show 0 ≤ 9223372036854775808 * u by grind)
  have d := Rat.mul_le_mul_of_nonneg_right qp (show 0 ≤ 1073741824 * (12 * eps) by grind)
  grind
 generalize (r * r) * (s' * s') / q' = V at *
 refine holds_mk ad.2 (by decide) ?_ ?_
 · exact int_le (t := 1 / 2) (by rw [co]; grind) (by grind)
 · exact int_le (t := 1 / 2) (by rw [co]; grind) (by grind)
end Go.Or
