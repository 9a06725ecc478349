/-
 Chapter 20, plain: the halving from a side.
-/
import Derived.Test.YtekplphjbngabaaGreatDoorKeA
import Derived.Test.YtekplphjbngabaaGreatDoorSta
set_option maxRecDepth 100000
namespace Go.Ke
open Go Go.Qt Go.Iv Go.An Go.Wv Go.Nv
def sg (m e p : Int) : Int := signN (gapI m e p)
theorem sg_cases {m e p : Int} (h : May m e p) : (sg m e p = 1 ↔ 0 < (gapI m e p).lo) ∧ (sg m e p = -1 ↔ (gapI m e p).hi < 0) := by
 have f := (gp h).f
 have r := fine_iff.1 f
 unfold sg signN
 rw [fine1, f]
 show ((if (gapI m e p).lo > 0 then (1 : Int) else if (gapI m e p).hi < 0 then -1 else 0) = 1 ↔ _) ∧ ((if (gapI m e p).lo > 0 then (1 : Int) else if (gapI m e p).hi < 0 then -1 else 0) = -1 ↔ _)
 split
 · constructor <;> constructor <;> intro _ <;> omega
 · split
   · constructor <;> constructor <;> intro _ <;> omega
   · constructor <;> constructor <;> intro _ <;> omega
theorem gap_near {m e p : Int} (h : May m e p) : p - e - 1 ≤ (gap0 e p).hi ∧ (gap0 e p).lo ≤ p + e + 1 := by
 have g := (gp h).h
 have p1 := h.p1
 have p2 := h.p2
 have n := (sR_near (xr_in (n := p) (by omega) (by omega)) false).2.2
 have e1 := cle.2 h.e1
 have e0 : ((0 : Int) : Rat) = 0 := rfl
 have c1 : ((1 : Int) : Rat) = 1 := rfl
 rw [e0] at e1
 unfold Hd at g
 generalize sR false (xr p) = S at *
 have x1 : (e : Rat) * (1073741824 * S) / 1073741824 = e * S := by grind
 rw [x1] at g
 have k1 := Rat.mul_le_mul_of_nonneg_left n.1 e1
 have k2 := Rat.mul_le_mul_of_nonneg_left n.2 e1
 generalize (e : Rat) * S = X at *
 constructor
 · refine cle.1 ?_
   rw [Rat.intCast_sub, Rat.intCast_sub, c1]
   grind
 · refine cle.1 ?_
   rw [Rat.intCast_add, Rat.intCast_add, c1]
   grind
theorem sg_low {m e : Int} (h1 : 0 ≤ m) (h2 : m ≤ 3221225472) (e1 : 0 ≤ e) (e2 : e ≤ 966367641) : sg m e (m - 1073741824) = -1 := by
 have h : May m e (m - 1073741824) := ⟨h1, h2, e1, e2, by omega, by omega⟩
 have n := gap_near h
 have w := (gp h).w
 refine (sg_cases h).2.2 ?_
 rw [(gp h).k]
 show (gap0 e (m - 1073741824)).hi - m < 0
 omega
theorem sg_high {m e : Int} (h1 : 0 ≤ m) (h2 : m ≤ 3221225472) (e1 : 0 ≤ e) (e2 : e ≤ 966367641) : sg m e (m + 1073741824) = 1 := by
 have h : May m e (m + 1073741824) := ⟨h1, h2, e1, e2, by omega, by omega⟩
 have n := gap_near h
 have w := (gp h).w
 refine (sg_cases h).1.2 ?_
 rw [(gp h).k]
 show 0 < (gap0 e (m + 1073741824)).lo - m
 omega
theorem sg_order {m e p q : Int} (h : May m e p) (k : May m e q) (hp : sg m e p = -1) (hq : sg m e q = 1) : p < q := by
 have a := (sg_cases h).2.1 hp
 have b := (sg_cases k).1.1 hq
 rcases Int.lt_or_le p q with g | g
 · exact g
 · have := rises k h g
   omega
def hv (m e side : Int) : Nat → Int × Int
 | 0 => (m + side * 1073741824, m - side * 1073741824)
 | k + 1 => if sg m e (((hv m e side k).1 + (hv m e side k).2) / 2) = side then (((hv m e side k).1 + (hv m e side k).2) / 2, (hv m e side k).2) else ((hv m e side k).1, ((hv m e side k).1 + (hv m e side k).2) / 2)
structure HvF (m e side : Int) (k : Nat) : Prop where
 d : (hv m e side k).2 - (hv m e side k).1 = -side * 2 ^ (31 - k)
 a1 : m - 1073741824 ≤ (hv m e side k).1
 a2 : (hv m e side k).1 ≤ m + 1073741824
 b1 : m - 1073741824 ≤ (hv m e side k).2
 b2 : (hv m e side k).2 ≤ m + 1073741824
 s : sg m e (hv m e side k).1 = side
 n : sg m e (hv m e side k).2 ≠ side
theorem hv_facts {m e side : Int} (h1 : 0 ≤ m) (h2 : m ≤ 3221225472) (e1 : 0 ≤ e) (e2 : e ≤ 966367641) (hs : side = -1 ∨ side = 1) : ∀ k, k ≤ 31 → HvF m e side k
 | 0, _ => by
  have lo := sg_low h1 h2 e1 e2
  have hi := sg_high h1 h2 e1 e2
  have el : m + -1 * 1073741824 = m - 1073741824 := by omega
  have eh : m - -1 * 1073741824 = m + 1073741824 := by omega
  have f1 : m + 1 * 1073741824 = m + 1073741824 := by omega
  have f2 : m - 1 * 1073741824 = m - 1073741824 := by omega
  rcases hs with rfl | rfl
  · exact ⟨by show (m - -1 * 1073741824) - (m + -1 * 1073741824) = - -1 * 2147483648; omega, by show _ ≤ m + -1 * 1073741824; omega, by show m + -1 * 1073741824 ≤ _; omega, by show _ ≤ m - -1 * 1073741824; omega, by show m - -1 * 1073741824 ≤ _; omega, by show sg m e (m + -1 * 1073741824) = -1; rw [el]; exact lo, by show sg m e (m - -1 * 1073741824) ≠ -1; rw [eh, hi]; decide⟩
  · exact ⟨by show (m - 1 * 1073741824) - (m + 1 * 1073741824) = -1 * 2147483648; omega, by show _ ≤ m + 1 * 1073741824; omega, by show m + 1 * 1073741824 ≤ _; omega, by show _ ≤ m - 1 * 1073741824; omega, by show m - 1 * 1073741824 ≤ _; omega, by show sg m e (m + 1 * 1073741824) = 1; rw [f1]; exact hi, by show sg m e (m - 1 * 1073741824) ≠ 1; rw [f2, lo]; decide⟩
 | k + 1, hk => by
  have f := hv_facts h1 h2 e1 e2 hs k (by omega)
  have p2 : (2 : Int) ^ (31 - k) = 2 * 2 ^ (31 - (k + 1)) := by
   have : 31 - k = (31 - (k + 1)) + 1 := by omega
   rw [this, Int.pow_succ]; omega
  have d := f.d
  have a1 := f.a1
  have a2 := f.a2
  have b1 := f.b1
  have b2 := f.b2
  have s := f.s
  have n := f.n
  rw [p2] at d
  have eh : hv m e side (k + 1) = if sg m e (((hv m e side k).1 + (hv m e side k).2) / 2) = side then (((hv m e side k).1 + (hv m e side k).2) / 2, (hv m e side k).2) else ((hv m e side k).1, ((hv m e side k).1 + (hv m e side k).2) / 2) := rfl
  generalize (hv m e side k).1 = x at *
  generalize (hv m e side k).2 = y at *
  by_cases hc : sg m e ((x + y) / 2) = side
  · rw [if_pos hc] at eh
    constructor <;> rw [eh]
    · rcases hs with rfl | rfl <;> show y - (x + y) / 2 = _ <;> omega
    · show _ ≤ (x + y) / 2; omega
    · show (x + y) / 2 ≤ _; omega
    · exact b1
    · exact b2
    · exact hc
    · exact n
  · rw [if_neg hc] at eh
    constructor <;> rw [eh]
    · rcases hs with rfl | rfl <;> show (x + y) / 2 - x = _ <;> omega
    · exact a1
    · exact a2
    · show _ ≤ (x + y) / 2; omega
    · show (x + y) / 2 ≤ _; omega
    · exact s
    · exact hc
theorem ends {m e : Int} (h1 : 0 ≤ m) (h2 : m ≤ 3221225472) (e1 : 0 ≤ e) (e2 : e ≤ 966367641) {i k : Nat} (hi : i ≤ 31) (hk : k ≤ 31) : (hv m e (-1) i).1 < (hv m e 1 k).1 := by
 have f := hv_facts h1 h2 e1 e2 (.inl rfl) i hi
 have g := hv_facts h1 h2 e1 e2 (.inr rfl) k hk
 have a1 := f.a1
 have a2 := f.a2
 have b1 := g.a1
 have b2 := g.a2
 exact sg_order ⟨h1, h2, e1, e2, by omega, by omega⟩ ⟨h1, h2, e1, e2, by omega, by omega⟩ f.s g.s
theorem further {m e side : Int} (h1 : 0 ≤ m) (h2 : m ≤ 3221225472) (e1 : 0 ≤ e) (e2 : e ≤ 966367641) (hs : side = -1 ∨ side = 1) {k : Nat} (hk : k + 1 ≤ 31) :
 (side = -1 → (hv m e side k).1 ≤ (hv m e side (k + 1)).1) ∧ (side = 1 → (hv m e side (k + 1)).1 ≤ (hv m e side k).1) := by
 have d := (hv_facts h1 h2 e1 e2 hs k (by omega)).d
 have p0 : (0 : Int) < 2 ^ (31 - k) := Int.pow_pos (by decide)
 have eh : hv m e side (k + 1) = if sg m e (((hv m e side k).1 + (hv m e side k).2) / 2) = side then (((hv m e side k).1 + (hv m e side k).2) / 2, (hv m e side k).2) else ((hv m e side k).1, ((hv m e side k).1 + (hv m e side k).2) / 2) := rfl
 rw [eh]
 generalize (hv m e side k).1 = x at *
 generalize (hv m e side k).2 = y at *
 constructor <;> intro hh <;> subst hh
 · split
   · show x ≤ (x + y) / 2; omega
   · exact Int.le_refl _
 · split
   · show (x + y) / 2 ≤ x; omega
   · exact Int.le_refl _
noncomputable def GR (e p : Int) : Rat := (p : Rat) - (e : Rat) * sR false (xr p)
theorem gr {m e p : Int} (h : May m e p) : Hd (gap0 e p) (GR e p) := by
 have g := (gp h).h
 have x1 : (e : Rat) * (1073741824 * sR false (xr p)) / 1073741824 = e * sR false (xr p) := by grind
 rw [x1] at g
 exact g
theorem slope {m e p q : Int} (h : May m e p) (k : May m e q) (hpq : p ≤ q) :
 (((q - p : Int) : Rat) * 107374183 ≤ 1073741824 * (GR e q - GR e p) + 1073741) ∧ 1073741824 * (GR e q - GR e p) ≤ ((q - p : Int) : Rat) * 2040109465 + 1073741 := by
 have p1 := h.p1
 have p2 := h.p2
 have q1 := k.p1
 have q2 := k.p2
 have l := sR_lips (xr_in (n := q) (by omega) (by omega)) (xr_in (n := p) (by omega) (by omega)) false
 have d := xr_sub q p
 have he := eps_30
 have e1 := cle.2 h.e1
 have e2 := cle.2 h.e2
 have pq := cle.2 hpq
 have em : mx (q - p) (p - q) = q - p := by unfold mx; split <;> omega
 rw [em, Rat.intCast_sub] at d
 have ep := eps_pos
 have e0 : ((0 : Int) : Rat) = 0 := rfl
 have eM : ((966367641 : Int) : Rat) = 966367641 := rfl
 rw [e0] at e1
 rw [eM] at e2
 have B0 : 0 ≤ An.ab (xr q - xr p) + 12 * eps := by
  have : 0 ≤ An.ab (xr q - xr p) := by unfold An.ab; grind
  grind
 have k1 := Rat.mul_le_mul_of_nonneg_left l.2 e1
 have k0 := Rat.mul_le_mul_of_nonneg_left l.1 e1
 have k2 := Rat.mul_le_mul_of_nonneg_right e2 B0
 rw [Rat.intCast_sub]
 unfold GR
 generalize An.ab (xr q - xr p) = A at *
 generalize sR false (xr p) = S at *
 generalize sR false (xr q) = T at *
 have x3 : (e : Rat) * (T - S) = e * T - e * S := by grind
 have x4 : (e : Rat) * -(A + 12 * eps) = -(e * (A + 12 * eps)) := by grind
 rw [x3] at k1 k0
 rw [x4] at k0
 generalize (e : Rat) * T = U at *
 generalize (e : Rat) * S = V at *
 generalize (e : Rat) * (A + 12 * eps) = X at *
 constructor <;> grind
theorem gr_sg {m e p : Int} (h : May m e p) : (sg m e p = -1 → GR e p ≤ ((m - 1 : Int) : Rat)) ∧ (sg m e p = 1 → ((m + 1 : Int) : Rat) ≤ GR e p) ∧ (sg m e p ≠ -1 → ((m - 55 : Int) : Rat) ≤ GR e p) ∧ (sg m e p ≠ 1 → GR e p ≤ ((m + 55 : Int) : Rat)) := by
 have g := gr h
 have w := (gp h).w
 have c := sg_cases h
 rw [(gp h).k] at c
 have c1 : sg m e p = 1 ↔ 0 < (gap0 e p).lo - m := c.1
 have c2 : sg m e p = -1 ↔ (gap0 e p).hi - m < 0 := c.2
 unfold Hd at g
 refine ⟨fun a => ?_, fun a => ?_, fun a => ?_, fun a => ?_⟩
 · have := cle.2 (show (gap0 e p).hi ≤ m - 1 by have := c2.1 a; omega)
   grind
 · have := cle.2 (show m + 1 ≤ (gap0 e p).lo by have := c1.1 a; omega)
   grind
 · have := cle.2 (show m - 55 ≤ (gap0 e p).lo by have : ¬ (gap0 e p).hi - m < 0 := fun b => a (c2.2 b); omega)
   grind
 · have := cle.2 (show (gap0 e p).hi ≤ m + 55 by have : ¬ 0 < (gap0 e p).lo - m := fun b => a (c1.2 b); omega)
   grind
theorem narrow {m e : Int} (h1 : 0 ≤ m) (h2 : m ≤ 3221225472) (e1 : 0 ≤ e) (e2 : e ≤ 966367641) : (hv m e 1 31).1 - (hv m e (-1) 31).1 ≤ 1202 ∧ 2 ≤ (hv m e 1 31).1 - (hv m e (-1) 31).1 := by
 have f := hv_facts h1 h2 e1 e2 (.inl rfl) 31 (by omega)
 have g := hv_facts h1 h2 e1 e2 (.inr rfl) 31 (by omega)
 have o := ends h1 h2 e1 e2 (i := 31) (k := 31) (by omega) (by omega)
 have fd : (hv m e (-1) 31).2 - (hv m e (-1) 31).1 = 1 := f.d
 have gd : (hv m e 1 31).2 - (hv m e 1 31).1 = -1 := g.d
 have fs := f.s
 have fn := f.n
 have gs := g.s
 have gn := g.n
 have fa1 := f.a1
 have fa2 := f.a2
 have fb1 := f.b1
 have fb2 := f.b2
 have ga1 := g.a1
 have ga2 := g.a2
 have gb1 := g.b1
 have gb2 := g.b2
 generalize (hv m e (-1) 31).1 = a at *
 generalize (hv m e (-1) 31).2 = b at *
 generalize (hv m e 1 31).1 = c at *
 generalize (hv m e 1 31).2 = d at *
 have Ma : May m e a := ⟨h1, h2, e1, e2, by omega, by omega⟩
 have Mb : May m e b := ⟨h1, h2, e1, e2, by omega, by omega⟩
 have Mc : May m e c := ⟨h1, h2, e1, e2, by omega, by omega⟩
 have Md : May m e d := ⟨h1, h2, e1, e2, by omega, by omega⟩
 constructor
 · rcases Int.lt_or_le d b with k | k
   · omega
   · have s := (slope Mb Md k).1
     have u := (gr_sg Mb).2.2.1 fn
     have v := (gr_sg Md).2.2.2 gn
     have t : d - b ≤ 1100 := by
      have t1 : (d - b) * 107374183 ≤ 1073741824 * 110 + 1073741 := by
       refine cle.1 ?_
       rw [Rat.intCast_sub] at s u
       rw [Rat.intCast_add] at v
       rw [Rat.intCast_mul, Rat.intCast_sub, Rat.intCast_add, Rat.intCast_mul]
       have q1 : ((107374183 : Int) : Rat) = 107374183 := rfl
       have q2 : ((1073741824 : Int) : Rat) = 1073741824 := rfl
       have q3 : ((110 : Int) : Rat) = 110 := rfl
       have q4 : ((1073741 : Int) : Rat) = 1073741 := rfl
       have q5 : ((55 : Int) : Rat) = 55 := rfl
       grind
      omega
     omega
 · rcases Int.lt_or_le (c - a) 2 with k | k
   · exfalso
     have s := (slope Ma Mc (by omega)).2
     have u := (gr_sg Ma).1 fs
     have v := (gr_sg Mc).2.1 gs
     have t1 : 1073741824 * 2 ≤ (c - a) * 2040109465 + 1073741 := by
      refine cle.1 ?_
      rw [Rat.intCast_sub] at s u
      rw [Rat.intCast_add] at v
      rw [Rat.intCast_mul, Rat.intCast_add, Rat.intCast_mul, Rat.intCast_sub]
      have q2 : ((1073741824 : Int) : Rat) = 1073741824 := rfl
      have q3 : ((2 : Int) : Rat) = 2 := rfl
      have q4 : ((1073741 : Int) : Rat) = 1073741 := rfl
      have q5 : ((1 : Int) : Rat) = 1 := rfl
      have q6 : ((2040109465 : Int) : Rat) = 2040109465 := rfl
      grind
     omega
   · exact k
theorem sg_more {m w e p : Int} (h : May m e p) (k : May w e p) (hm : m ≤ w) (hs : sg m e p = -1) : sg w e p = -1 := by
 have c := (sg_cases h).2.1 hs
 refine (sg_cases k).2.2 ?_
 rw [(gp h).k] at c
 rw [(gp k).k]
 have c' : (gap0 e p).hi - m < 0 := c
 show (gap0 e p).hi - w < 0
 omega
theorem more {m w e : Int} (h1 : 0 ≤ m) (hm : m ≤ w) (h2 : w ≤ 3221225472) (e1 : 0 ≤ e) (e2 : e ≤ 966367641) : (hv m e (-1) 31).1 < (hv w e 1 31).1 ∧ (hv m e (-1) 31).1 ≤ (hv w e (-1) 31).1 + 1202 := by
 have f := hv_facts h1 (by omega) e1 e2 (.inl rfl) 31 (by omega)
 have g := hv_facts (m := w) (by omega) h2 e1 e2 (.inr rfl) 31 (by omega)
 have n := narrow (m := w) (by omega) h2 e1 e2
 have a1 := f.a1
 have a2 := f.a2
 have b1 := g.a1
 have b2 := g.a2
 have s := sg_more (p := (hv m e (-1) 31).1) ⟨h1, by omega, e1, e2, by omega, by omega⟩ ⟨by omega, h2, e1, e2, by omega, by omega⟩ hm f.s
 have o := sg_order (m := w) (e := e) (p := (hv m e (-1) 31).1) (q := (hv w e 1 31).1) ⟨by omega, h2, e1, e2, by omega, by omega⟩ ⟨by omega, h2, e1, e2, by omega, by omega⟩ s g.s
 omega
theorem gap0_zero {p : Int} (p1 : -1073741824 ≤ p) (p2 : p ≤ 4294967296) : (gap0 0 p).lo = p ∧ (gap0 0 p).hi = p := by
 have wf := wave_facts false (point_far (n := p) (by omega) (by omega))
 have bs : Bd (waveI false (pointI p)) 1073741824 := ⟨wf.f, wf.l1, wf.h1⟩
 have be : Bd (pointI 0) 0 := bd_point (by omega) (by omega) (by decide)
 have b := (Bd.mul (k := 0) be bs (by decide) (by decide)).1
 have r := fine_iff.1 b.f
 have l := b.l
 have u := b.h
 have hp := hd_point (n := p) (by omega) (by omega)
 have pl : (pointI p).lo = p := by rw [hp.1]
 have pu : (pointI p).hi = p := by rw [hp.1]
 have s := sub_ok hp.2 b.f (by omega) (by omega)
 unfold gap0
 rw [s.1]
 show (pointI p).lo - _ = p ∧ (pointI p).hi - _ = p
 omega
theorem circle {m : Int} (h1 : 0 ≤ m) (h2 : m ≤ 3221225472) : (hv m 0 (-1) 31).1 = m - 1 ∧ (hv m 0 1 31).1 = m + 1 := by
 have f := hv_facts h1 h2 (e := 0) (by omega) (by omega) (.inl rfl) 31 (by omega)
 have g := hv_facts h1 h2 (e := 0) (by omega) (by omega) (.inr rfl) 31 (by omega)
 have key : ∀ p : Int, m - 1073741824 ≤ p → p ≤ m + 1073741824 → (sg m 0 p = 1 ↔ 0 < p - m) ∧ (sg m 0 p = -1 ↔ p - m < 0) := fun p a b => by
  have h : May m 0 p := ⟨h1, h2, by omega, by omega, by omega, by omega⟩
  have c := sg_cases h
  rw [(gp h).k] at c
  have z := gap0_zero (p := p) (by omega) (by omega)
  have c1 : sg m 0 p = 1 ↔ 0 < (gap0 0 p).lo - m := c.1
  have c2 : sg m 0 p = -1 ↔ (gap0 0 p).hi - m < 0 := c.2
  rw [z.1] at c1
  rw [z.2] at c2
  exact ⟨c1, c2⟩
 have fd : (hv m 0 (-1) 31).2 - (hv m 0 (-1) 31).1 = 1 := f.d
 have gd : (hv m 0 1 31).2 - (hv m 0 1 31).1 = -1 := g.d
 have u1 := (key _ f.a1 f.a2).2.1 f.s
 have u2 : ¬ (hv m 0 (-1) 31).2 - m < 0 := fun a => f.n ((key _ f.b1 f.b2).2.2 a)
 have v1 := (key _ g.a1 g.a2).1.1 g.s
 have v2 : ¬ 0 < (hv m 0 1 31).2 - m := fun a => g.n ((key _ g.b1 g.b2).1.2 a)
 omega
theorem sR_zero : sR false (xr 0) = 0 := by decide +kernel
theorem nought {e : Int} (e1 : 0 ≤ e) (e2 : e ≤ 966367641) : (hv 0 e (-1) 31).1 < 0 ∧ 0 < (hv 0 e 1 31).1 := by
 have f := hv_facts (m := 0) (by omega) (by omega) e1 e2 (.inl rfl) 31 (by omega)
 have g := hv_facts (m := 0) (by omega) (by omega) e1 e2 (.inr rfl) 31 (by omega)
 have M0 : May 0 e 0 := ⟨by omega, by omega, e1, e2, by omega, by omega⟩
 have z : GR e 0 = 0 := by
  unfold GR
  rw [sR_zero]
  have : ((0 : Int) : Rat) = 0 := rfl
  grind
 have q2 : ((1073741824 : Int) : Rat) = 1073741824 := rfl
 have q4 : ((1073741 : Int) : Rat) = 1073741 := rfl
 have q5 : ((1 : Int) : Rat) = 1 := rfl
 have q7 : ((0 : Int) : Rat) = 0 := rfl
 have q8 : ((0 - 1 : Int) : Rat) = -1 := rfl
 have q9 : ((0 + 1 : Int) : Rat) = 1 := rfl
 constructor
 · rcases Int.lt_or_le (hv 0 e (-1) 31).1 0 with k | k
   · exact k
   · exfalso
     have a2 := f.a2
     have M : May 0 e (hv 0 e (-1) 31).1 := ⟨by omega, by omega, e1, e2, by omega, by omega⟩
     have s := (slope M0 M k).1
     have u := (gr_sg M).1 f.s
     have kk := cle.2 k
     rw [z, Rat.intCast_sub] at s
     rw [q8] at u
     rw [q7] at s kk
     grind
 · rcases Int.lt_or_le 0 (hv 0 e 1 31).1 with k | k
   · exact k
   · exfalso
     have a1 := g.a1
     have M : May 0 e (hv 0 e 1 31).1 := ⟨by omega, by omega, e1, e2, by omega, by omega⟩
     have s := (slope M M0 k).1
     have u := (gr_sg M).2.1 g.s
     have kk := cle.2 k
     rw [z, Rat.intCast_sub] at s
     rw [q9] at u
     rw [q7] at s kk
     grind
end Go.Ke
