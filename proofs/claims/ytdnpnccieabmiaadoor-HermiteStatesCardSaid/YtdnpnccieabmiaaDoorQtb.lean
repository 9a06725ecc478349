/-
  Contracts of package quot, eighth part: floor. Printed by quotH.py.
-/
import Derived.Test.YtdnpnccieabmiaaDoorQta
import Derived.Test.YtdnpnccieabmiaaDoorLawA
import Derived.Test.YtdnpnccieabmiaaDoorRfb
set_option maxRecDepth 100000
namespace Go.Qt
open Go Go.RowKit Go.Sx Go.Nm Go.Wd Go.Proofs
def fq (a b : Int) : Int := if 0 < b then a / b else (-a) / (-b)
def fr (a b : Int) : Int := if 0 < b then a % b else -((-a) % (-b))
def Sm (a : Int) : Prop := -HH < a ∧ a < HH
theorem neg_div {a b : Int} (hb : 0 < b) (_ : a < 0) : a / b = -((-(a + 1)) / b) - 1 ∧ a % b = b - 1 - (-(a + 1)) % b := by
  have e := Int.mul_ediv_add_emod (-(a + 1)) b
  have r0 := Int.emod_nonneg (-(a + 1)) (b := b) (by omega)
  have r1 := Int.emod_lt_of_pos (-(a + 1)) hb
  generalize (-(a + 1)) / b = t at *
  generalize (-(a + 1)) % b = r at *
  have := (Int.ediv_emod_unique (a := a) (b := b) (r := b - 1 - r) (q := -t - 1) hb).2 ⟨by rw [Int.mul_sub, Int.mul_neg]; omega, by omega, by omega⟩
  exact this
theorem div_bound {a b : Int} (ha : 0 ≤ a) (hb : 0 < b) : 0 ≤ a / b ∧ a / b ≤ a ∧ 0 ≤ a % b ∧ a % b < b ∧ a % b ≤ a :=
  ⟨Int.ediv_nonneg ha (by omega), Int.ediv_le_self b ha, Int.emod_nonneg a (by omega), Int.emod_lt_of_pos a hb, emod_le ha hb⟩
theorem sure_ok {n : Int} (h : InR n) : sureP [W n, .bool (!inRB n)] := ⟨⟨_, rfl⟩, by rw [inRB_of h]; rfl⟩
theorem plain_at {m n : Int} (hm : InR m) (hn : InR n) (h0 : 0 ≤ m) (h1 : 0 < n) : plainP [W m, W n] := ⟨⟨_, rfl⟩, ⟨_, rfl⟩, by rw [tI_in hm]; exact h0, by rw [tI_in hn]; exact h1⟩
def floorP : List Value → Prop
  | [x, y] => IsW x ∧ IsW y ∧ Sm (tI x) ∧ Sm (tI y) ∧ tI y ≠ 0
  | _ => False
def floorV : List Value → Value
  | [x, y] => .tuple #[W (fq (tI x) (tI y)), W (fr (tI x) (tI y))]
  | _ => undef
noncomputable def QF : Env P := ⟨⟨[must, sure, plain] ++ wideC, []⟩, [], 10, []⟩
theorem nw {a c : Int} (ha : InR a) (hc : InR c) (h : a ≠ c) : (!(weq a c)) = true := by
  rw [weq_eq, Bool.not_eq_true', decide_eq_false_iff_not]
  unfold InR at *
  simp only [HH, MM] at *
  omega
theorem lt_t {x : Int} (h : x < 0) : (decide (cmp3 x 0 < 0)) = true := decide_eq_true (by unfold cmp3; omega)
theorem lt_f {x : Int} (h : ¬ x < 0) : (decide (cmp3 x 0 < 0)) = false := decide_eq_false (by unfold cmp3; omega)
theorem inR_of {n : Int} (h : -HH < n ∧ n < HH) : InR n := ⟨by omega, h.2⟩
theorem fl0_run (a b : Int) : runF P QF 1 46 [W a, W b] (.b true :: (.b false :: (.b false :: (.b false :: [])))) =
  some (.tuple #[W (tI (W a) / tI (W b)), W (tI (W a) % tI (W b))], [mustP [.bool (!(weq b 0)), .int .i64 30], (!(weq a (-57896044618658097711785492504343953926634992332820282019728792003956564819968))) = true, mustP [.bool (!(weq b (-57896044618658097711785492504343953926634992332820282019728792003956564819968))), .int .i64 20], P1 [W b], (decide (cmp3 (tI (W b)) 0 < 0)) = false, P1 [W a], (decide (cmp3 (tI (W a)) 0 < 0)) = false, plainP [W a, W b], (decide (cmp3 (tI (W b)) 0 < 0)) = false]) := by kernel_rfl
theorem fl0_leaf (a b : Int) (ha : Sm a) (hb : Sm b) (h1 : 0 < b) (h2 : 0 ≤ a) : Gives P 46 #[W a, W b] (.tuple #[W (fq a b), W (fr a b)]) := by
  unfold Sm at ha hb
  have hH : HH = 57896044618658097711785492504343953926634992332820282019728792003956564819968 := rfl
  obtain ⟨d0, d1, d2, d3, d4⟩ := div_bound (a := a) (b := b) h2 h1
  have e0 : tI (W b) = b := tI_in (by unfold InR; omega)
  have e1 : tI (W a) = a := tI_in (by unfold InR; omega)
  have R := fl0_run a b
  rw [e0, e1] at R
  refine gives_of_run mo R (ps_cons (nw (inR_of (by omega)) (by unfold InR; decide) (by omega)) (ps_cons (nw (inR_of (by omega)) (by unfold InR; decide) (by omega)) (ps_cons (nw (inR_of (by omega)) (by unfold InR; decide) (by omega)) (ps_cons (P1_W _) (ps_cons (lt_f (by omega)) (ps_cons (P1_W _) (ps_cons (lt_f (by omega)) (ps_cons (plain_at (by unfold InR; omega) (by unfold InR; omega) (by omega) (by omega)) (ps_cons (lt_f (by omega)) ps_nil))))))))) ?_
  unfold fq fr
  rw [if_pos (by omega), if_pos (by omega)]
theorem fl1_run (a b : Int) : runF P QF 1 46 [W a, W b] (.b true :: (.b false :: (.b true :: (.b false :: [])))) =
  some (.tuple #[W (tI (W (-tI (W (tI (W (-tI (W (tI (W a) + tI (W 1))))) / tI (W b))))) - tI (W 1)), W (tI (W (tI (W b) - tI (W 1))) - tI (W (tI (W (-tI (W (tI (W a) + tI (W 1))))) % tI (W b))))], [mustP [.bool (!(weq b 0)), .int .i64 30], (!(weq a (-57896044618658097711785492504343953926634992332820282019728792003956564819968))) = true, mustP [.bool (!(weq b (-57896044618658097711785492504343953926634992332820282019728792003956564819968))), .int .i64 20], P1 [W b], (decide (cmp3 (tI (W b)) 0 < 0)) = false, P1 [W a], (decide (cmp3 (tI (W a)) 0 < 0)) = true, ofP [.int .i64 1], P2 [W a, W 1], sureP [W (tI (W a) + tI (W 1)), .bool (!inRB (tI (W a) + tI (W 1)))], P1 [W (tI (W a) + tI (W 1))], sureP [W (-tI (W (tI (W a) + tI (W 1)))), .bool (!inRB (-tI (W (tI (W a) + tI (W 1)))))], plainP [W (-tI (W (tI (W a) + tI (W 1)))), W b], P1 [W (tI (W (-tI (W (tI (W a) + tI (W 1))))) / tI (W b))], sureP [W (-tI (W (tI (W (-tI (W (tI (W a) + tI (W 1))))) / tI (W b)))), .bool (!inRB (-tI (W (tI (W (-tI (W (tI (W a) + tI (W 1))))) / tI (W b)))))], ofP [.int .i64 1], P2 [W (-tI (W (tI (W (-tI (W (tI (W a) + tI (W 1))))) / tI (W b)))), W 1], sureP [W (tI (W (-tI (W (tI (W (-tI (W (tI (W a) + tI (W 1))))) / tI (W b))))) - tI (W 1)), .bool (!inRB (tI (W (-tI (W (tI (W (-tI (W (tI (W a) + tI (W 1))))) / tI (W b))))) - tI (W 1)))], ofP [.int .i64 1], P2 [W b, W 1], sureP [W (tI (W b) - tI (W 1)), .bool (!inRB (tI (W b) - tI (W 1)))], P2 [W (tI (W b) - tI (W 1)), W (tI (W (-tI (W (tI (W a) + tI (W 1))))) % tI (W b))], sureP [W (tI (W (tI (W b) - tI (W 1))) - tI (W (tI (W (-tI (W (tI (W a) + tI (W 1))))) % tI (W b)))), .bool (!inRB (tI (W (tI (W b) - tI (W 1))) - tI (W (tI (W (-tI (W (tI (W a) + tI (W 1))))) % tI (W b)))))], (decide (cmp3 (tI (W b)) 0 < 0)) = false]) := by kernel_rfl
theorem fl1_leaf (a b : Int) (ha : Sm a) (hb : Sm b) (h1 : 0 < b) (h2 : a < 0) : Gives P 46 #[W a, W b] (.tuple #[W (fq a b), W (fr a b)]) := by
  unfold Sm at ha hb
  have hH : HH = 57896044618658097711785492504343953926634992332820282019728792003956564819968 := rfl
  obtain ⟨d0, d1, d2, d3, d4⟩ := div_bound (a := -(a + 1)) (b := b) (by omega) h1
  obtain ⟨g1, g2⟩ := neg_div h1 h2
  have e0 : tI (W b) = b := tI_in (by unfold InR; omega)
  have e1 : tI (W a) = a := tI_in (by unfold InR; omega)
  have e2 : tI (W 1) = 1 := tI_in (by unfold InR; omega)
  have e3 : tI (W (a + 1)) = a + 1 := tI_in (by unfold InR; omega)
  have e4 : tI (W (-(a + 1))) = (-(a + 1)) := tI_in (by unfold InR; omega)
  have e5 : tI (W ((-(a + 1)) / b)) = (-(a + 1)) / b := tI_in (by unfold InR; omega)
  have e6 : tI (W (-((-(a + 1)) / b))) = (-((-(a + 1)) / b)) := tI_in (by unfold InR; omega)
  have e7 : tI (W (b - 1)) = b - 1 := tI_in (by unfold InR; omega)
  have e8 : tI (W ((-(a + 1)) % b)) = (-(a + 1)) % b := tI_in (by unfold InR; omega)
  have R := fl1_run a b
  rw [e0, e1, e2, e3, e4, e5, e6, e7, e8] at R
  refine gives_of_run mo R (ps_cons (nw (inR_of (by omega)) (by unfold InR; decide) (by omega)) (ps_cons (nw (inR_of (by omega)) (by unfold InR; decide) (by omega)) (ps_cons (nw (inR_of (by omega)) (by unfold InR; decide) (by omega)) (ps_cons (P1_W _) (ps_cons (lt_f (by omega)) (ps_cons (P1_W _) (ps_cons (lt_t (by omega)) (ps_cons ⟨by decide, by decide⟩ (ps_cons (P2_W _ _) (ps_cons (sure_ok (by unfold InR; omega)) (ps_cons (P1_W _) (ps_cons (sure_ok (by unfold InR; omega)) (ps_cons (plain_at (by unfold InR; omega) (by unfold InR; omega) (by omega) (by omega)) (ps_cons (P1_W _) (ps_cons (sure_ok (by unfold InR; omega)) (ps_cons ⟨by decide, by decide⟩ (ps_cons (P2_W _ _) (ps_cons (sure_ok (by unfold InR; omega)) (ps_cons ⟨by decide, by decide⟩ (ps_cons (P2_W _ _) (ps_cons (sure_ok (by unfold InR; omega)) (ps_cons (P2_W _ _) (ps_cons (sure_ok (by unfold InR; omega)) (ps_cons (lt_f (by omega)) ps_nil)))))))))))))))))))))))) ?_
  unfold fq fr
  rw [if_pos (by omega), if_pos (by omega), g1, g2]
theorem fl2_run (a b : Int) : runF P QF 1 46 [W a, W b] (.b true :: (.b true :: (.b false :: (.b true :: [])))) =
  some (.tuple #[W (tI (W (-tI (W a))) / tI (W (-tI (W b)))), W (-tI (W (tI (W (-tI (W a))) % tI (W (-tI (W b))))))], [mustP [.bool (!(weq b 0)), .int .i64 30], (!(weq a (-57896044618658097711785492504343953926634992332820282019728792003956564819968))) = true, mustP [.bool (!(weq b (-57896044618658097711785492504343953926634992332820282019728792003956564819968))), .int .i64 20], P1 [W b], (decide (cmp3 (tI (W b)) 0 < 0)) = true, P1 [W a], sureP [W (-tI (W a)), .bool (!inRB (-tI (W a)))], P1 [W b], sureP [W (-tI (W b)), .bool (!inRB (-tI (W b)))], P1 [W (-tI (W a))], (decide (cmp3 (tI (W (-tI (W a)))) 0 < 0)) = false, plainP [W (-tI (W a)), W (-tI (W b))], (decide (cmp3 (tI (W b)) 0 < 0)) = true, P1 [W (tI (W (-tI (W a))) % tI (W (-tI (W b))))], sureP [W (-tI (W (tI (W (-tI (W a))) % tI (W (-tI (W b)))))), .bool (!inRB (-tI (W (tI (W (-tI (W a))) % tI (W (-tI (W b)))))))]]) := by kernel_rfl
theorem fl2_leaf (a b : Int) (ha : Sm a) (hb : Sm b) (h1 : b < 0) (h2 : a ≤ 0) : Gives P 46 #[W a, W b] (.tuple #[W (fq a b), W (fr a b)]) := by
  unfold Sm at ha hb
  have hH : HH = 57896044618658097711785492504343953926634992332820282019728792003956564819968 := rfl
  obtain ⟨d0, d1, d2, d3, d4⟩ := div_bound (a := -a) (b := -b) (by omega) (by omega)
  have e0 : tI (W b) = b := tI_in (by unfold InR; omega)
  have e1 : tI (W a) = a := tI_in (by unfold InR; omega)
  have e2 : tI (W (-a)) = (-a) := tI_in (by unfold InR; omega)
  have e3 : tI (W (-b)) = (-b) := tI_in (by unfold InR; omega)
  have e4 : tI (W ((-a) % (-b))) = (-a) % (-b) := tI_in (by unfold InR; omega)
  have R := fl2_run a b
  rw [e0, e1, e2, e3, e4] at R
  refine gives_of_run mo R (ps_cons (nw (inR_of (by omega)) (by unfold InR; decide) (by omega)) (ps_cons (nw (inR_of (by omega)) (by unfold InR; decide) (by omega)) (ps_cons (nw (inR_of (by omega)) (by unfold InR; decide) (by omega)) (ps_cons (P1_W _) (ps_cons (lt_t (by omega)) (ps_cons (P1_W _) (ps_cons (sure_ok (by unfold InR; omega)) (ps_cons (P1_W _) (ps_cons (sure_ok (by unfold InR; omega)) (ps_cons (P1_W _) (ps_cons (lt_f (by omega)) (ps_cons (plain_at (by unfold InR; omega) (by unfold InR; omega) (by omega) (by omega)) (ps_cons (lt_t (by omega)) (ps_cons (P1_W _) (ps_cons (sure_ok (by unfold InR; omega)) ps_nil))))))))))))))) ?_
  unfold fq fr
  rw [if_neg (by omega), if_neg (by omega)]
theorem fl3_run (a b : Int) : runF P QF 1 46 [W a, W b] (.b true :: (.b true :: (.b true :: (.b true :: [])))) =
  some (.tuple #[W (tI (W (-tI (W (tI (W (-tI (W (tI (W (-tI (W a))) + tI (W 1))))) / tI (W (-tI (W b))))))) - tI (W 1)), W (-tI (W (tI (W (tI (W (-tI (W b))) - tI (W 1))) - tI (W (tI (W (-tI (W (tI (W (-tI (W a))) + tI (W 1))))) % tI (W (-tI (W b))))))))], [mustP [.bool (!(weq b 0)), .int .i64 30], (!(weq a (-57896044618658097711785492504343953926634992332820282019728792003956564819968))) = true, mustP [.bool (!(weq b (-57896044618658097711785492504343953926634992332820282019728792003956564819968))), .int .i64 20], P1 [W b], (decide (cmp3 (tI (W b)) 0 < 0)) = true, P1 [W a], sureP [W (-tI (W a)), .bool (!inRB (-tI (W a)))], P1 [W b], sureP [W (-tI (W b)), .bool (!inRB (-tI (W b)))], P1 [W (-tI (W a))], (decide (cmp3 (tI (W (-tI (W a)))) 0 < 0)) = true, ofP [.int .i64 1], P2 [W (-tI (W a)), W 1], sureP [W (tI (W (-tI (W a))) + tI (W 1)), .bool (!inRB (tI (W (-tI (W a))) + tI (W 1)))], P1 [W (tI (W (-tI (W a))) + tI (W 1))], sureP [W (-tI (W (tI (W (-tI (W a))) + tI (W 1)))), .bool (!inRB (-tI (W (tI (W (-tI (W a))) + tI (W 1)))))], plainP [W (-tI (W (tI (W (-tI (W a))) + tI (W 1)))), W (-tI (W b))], P1 [W (tI (W (-tI (W (tI (W (-tI (W a))) + tI (W 1))))) / tI (W (-tI (W b))))], sureP [W (-tI (W (tI (W (-tI (W (tI (W (-tI (W a))) + tI (W 1))))) / tI (W (-tI (W b)))))), .bool (!inRB (-tI (W (tI (W (-tI (W (tI (W (-tI (W a))) + tI (W 1))))) / tI (W (-tI (W b)))))))], ofP [.int .i64 1], P2 [W (-tI (W (tI (W (-tI (W (tI (W (-tI (W a))) + tI (W 1))))) / tI (W (-tI (W b)))))), W 1], sureP [W (tI (W (-tI (W (tI (W (-tI (W (tI (W (-tI (W a))) + tI (W 1))))) / tI (W (-tI (W b))))))) - tI (W 1)), .bool (!inRB (tI (W (-tI (W (tI (W (-tI (W (tI (W (-tI (W a))) + tI (W 1))))) / tI (W (-tI (W b))))))) - tI (W 1)))], ofP [.int .i64 1], P2 [W (-tI (W b)), W 1], sureP [W (tI (W (-tI (W b))) - tI (W 1)), .bool (!inRB (tI (W (-tI (W b))) - tI (W 1)))], P2 [W (tI (W (-tI (W b))) - tI (W 1)), W (tI (W (-tI (W (tI (W (-tI (W a))) + tI (W 1))))) % tI (W (-tI (W b))))], sureP [W (tI (W (tI (W (-tI (W b))) - tI (W 1))) - tI (W (tI (W (-tI (W (tI (W (-tI (W a))) + tI (W 1))))) % tI (W (-tI (W b)))))), .bool (!inRB (tI (W (tI (W (-tI (W b))) - tI (W 1))) - tI (W (tI (W (-tI (W (tI (W (-tI (W a))) + tI (W 1))))) % tI (W (-tI (W b)))))))], (decide (cmp3 (tI (W b)) 0 < 0)) = true, P1 [W (tI (W (tI (W (-tI (W b))) - tI (W 1))) - tI (W (tI (W (-tI (W (tI (W (-tI (W a))) + tI (W 1))))) % tI (W (-tI (W b))))))], sureP [W (-tI (W (tI (W (tI (W (-tI (W b))) - tI (W 1))) - tI (W (tI (W (-tI (W (tI (W (-tI (W a))) + tI (W 1))))) % tI (W (-tI (W b)))))))), .bool (!inRB (-tI (W (tI (W (tI (W (-tI (W b))) - tI (W 1))) - tI (W (tI (W (-tI (W (tI (W (-tI (W a))) + tI (W 1))))) % tI (W (-tI (W b)))))))))]]) := by kernel_rfl
theorem fl3_leaf (a b : Int) (ha : Sm a) (hb : Sm b) (h1 : b < 0) (h2 : 0 < a) : Gives P 46 #[W a, W b] (.tuple #[W (fq a b), W (fr a b)]) := by
  unfold Sm at ha hb
  have hH : HH = 57896044618658097711785492504343953926634992332820282019728792003956564819968 := rfl
  obtain ⟨d0, d1, d2, d3, d4⟩ := div_bound (a := -(-a + 1)) (b := -b) (by omega) (by omega)
  obtain ⟨g1, g2⟩ := neg_div (a := -a) (b := -b) (by omega) (by omega)
  have e0 : tI (W b) = b := tI_in (by unfold InR; omega)
  have e1 : tI (W a) = a := tI_in (by unfold InR; omega)
  have e2 : tI (W (-a)) = (-a) := tI_in (by unfold InR; omega)
  have e3 : tI (W 1) = 1 := tI_in (by unfold InR; omega)
  have e4 : tI (W ((-a) + 1)) = (-a) + 1 := tI_in (by unfold InR; omega)
  have e5 : tI (W (-((-a) + 1))) = (-((-a) + 1)) := tI_in (by unfold InR; omega)
  have e6 : tI (W (-b)) = (-b) := tI_in (by unfold InR; omega)
  have e7 : tI (W ((-((-a) + 1)) / (-b))) = (-((-a) + 1)) / (-b) := tI_in (by unfold InR; omega)
  have e8 : tI (W (-((-((-a) + 1)) / (-b)))) = (-((-((-a) + 1)) / (-b))) := tI_in (by unfold InR; omega)
  have e9 : tI (W ((-b) - 1)) = (-b) - 1 := tI_in (by unfold InR; omega)
  have e10 : tI (W ((-((-a) + 1)) % (-b))) = (-((-a) + 1)) % (-b) := tI_in (by unfold InR; omega)
  have e11 : tI (W (((-b) - 1) - ((-((-a) + 1)) % (-b)))) = ((-b) - 1) - ((-((-a) + 1)) % (-b)) := tI_in (by unfold InR; omega)
  have R := fl3_run a b
  rw [e0, e1, e2, e3, e4, e5, e6, e7, e8, e9, e10, e11] at R
  refine gives_of_run mo R (ps_cons (nw (inR_of (by omega)) (by unfold InR; decide) (by omega)) (ps_cons (nw (inR_of (by omega)) (by unfold InR; decide) (by omega)) (ps_cons (nw (inR_of (by omega)) (by unfold InR; decide) (by omega)) (ps_cons (P1_W _) (ps_cons (lt_t (by omega)) (ps_cons (P1_W _) (ps_cons (sure_ok (by unfold InR; omega)) (ps_cons (P1_W _) (ps_cons (sure_ok (by unfold InR; omega)) (ps_cons (P1_W _) (ps_cons (lt_t (by omega)) (ps_cons ⟨by decide, by decide⟩ (ps_cons (P2_W _ _) (ps_cons (sure_ok (by unfold InR; omega)) (ps_cons (P1_W _) (ps_cons (sure_ok (by unfold InR; omega)) (ps_cons (plain_at (by unfold InR; omega) (by unfold InR; omega) (by omega) (by omega)) (ps_cons (P1_W _) (ps_cons (sure_ok (by unfold InR; omega)) (ps_cons ⟨by decide, by decide⟩ (ps_cons (P2_W _ _) (ps_cons (sure_ok (by unfold InR; omega)) (ps_cons ⟨by decide, by decide⟩ (ps_cons (P2_W _ _) (ps_cons (sure_ok (by unfold InR; omega)) (ps_cons (P2_W _ _) (ps_cons (sure_ok (by unfold InR; omega)) (ps_cons (lt_t (by omega)) (ps_cons (P1_W _) (ps_cons (sure_ok (by unfold InR; omega)) ps_nil)))))))))))))))))))))))))))))) ?_
  unfold fq fr
  rw [if_neg (by omega), if_neg (by omega), g1, g2]
theorem floor_gives (args : List Value) (h : floorP args) : Gives P 46 args.toArray (floorV args) := by
  unfold floorP at h
  split at h
  · rename_i x y
    obtain ⟨hx, hy, h1, h2, h3⟩ := h
    obtain ⟨ex, rx⟩ := isW_in hx
    obtain ⟨ey, ry⟩ := isW_in hy
    have key : Gives P 46 #[W (tI x), W (tI y)] (.tuple #[W (fq (tI x) (tI y)), W (fr (tI x) (tI y))]) := by
      by_cases hb : 0 < tI y
      · by_cases ha : 0 ≤ tI x
        · exact fl0_leaf _ _ h1 h2 hb ha
        · exact fl1_leaf _ _ h1 h2 hb (by omega)
      · by_cases ha : tI x ≤ 0
        · exact fl2_leaf _ _ h1 h2 (by omega) ha
        · exact fl3_leaf _ _ h1 h2 (by omega) (by omega)
    rw [← ex, ← ey] at key
    exact key
  · exact h.elim
noncomputable def floor : Ctr P := ⟨46, floorP, floorV, floor_gives⟩
end Go.Qt
/-
  Contracts of package quot, ninth part: Floor, Rest, Ceil, Near. Printed by quotI.py.
-/
namespace Go.Qt
open Go Go.RowKit Go.Sx Go.Nm Go.Wd Go.Proofs
def qe (a b : Int) : Int := if b = 0 then 30 else if a = -HH ∨ b = -HH then 20 else 0
def qv (f : Int → Int → Int) (a b : Int) : Int := if qe a b = 0 then f a b else 0
def cq (a b : Int) : Int := if fr a b = 0 then fq a b else fq a b + 1
def nc (a b : Int) : Int := cmp3 (fr a b) (b - fr a b) * cmp3 b 0
def nq (a b : Int) : Int := if nc a b > 0 ∨ nc a b = 0 ∧ 0 ≤ fq a b then fq a b + 1 else fq a b
def quoV (f : Int → Int → Int) : List Value → Value
  | [x, y] => .tuple #[W (qv f (tI x) (tI y)), .int .i64 (qe (tI x) (tI y))]
  | _ => undef
noncomputable def Qe : Env P := ⟨wideC, [], 10, [toldD]⟩
noncomputable def Qn : Env P := ⟨⟨[must, sure, floor, shift] ++ wideC, []⟩, [], 10, [toldD]⟩
theorem fl_facts {a b : Int} (ha : Sm a) (hb : Sm b) (h : b ≠ 0) : b * fq a b + fr a b = a ∧ (0 < b → 0 ≤ fr a b ∧ fr a b < b) ∧ (b < 0 → fr a b ≤ 0 ∧ b < fr a b) ∧ InR (fq a b) ∧ InR (fr a b) := by
  unfold Sm at ha hb
  have hH : HH = 57896044618658097711785492504343953926634992332820282019728792003956564819968 := rfl
  unfold fq fr
  by_cases h1 : 0 < b
  · rw [if_pos h1, if_pos h1]
    have e := Int.mul_ediv_add_emod a b
    have r0 := Int.emod_nonneg a (b := b) (by omega)
    have r1 := Int.emod_lt_of_pos a h1
    refine ⟨e, fun _ => ⟨r0, r1⟩, fun h => absurd h (by omega), ?_, by unfold InR; omega⟩
    by_cases h2 : 0 ≤ a
    · obtain ⟨d0, d1, _⟩ := div_bound h2 h1
      unfold InR; omega
    · obtain ⟨g1, _⟩ := neg_div (a := a) h1 (by omega)
      obtain ⟨d0, d1, _⟩ := div_bound (a := -(a + 1)) (b := b) (by omega) h1
      unfold InR; omega
  · rw [if_neg h1, if_neg h1]
    have e := Int.mul_ediv_add_emod (-a) (-b)
    have r0 := Int.emod_nonneg (-a) (b := -b) (by omega)
    have r1 := Int.emod_lt_of_pos (-a) (b := -b) (by omega)
    rw [Int.neg_mul] at e
    refine ⟨by omega, fun h => absurd h h1, fun _ => ⟨by omega, by omega⟩, ?_, by unfold InR; omega⟩
    by_cases h2 : 0 ≤ -a
    · obtain ⟨d0, d1, _⟩ := div_bound (a := -a) (b := -b) h2 (by omega)
      unfold InR; omega
    · obtain ⟨g1, _⟩ := neg_div (a := -a) (b := -b) (by omega) (by omega)
      obtain ⟨d0, d1, _⟩ := div_bound (a := -(-a + 1)) (b := -b) (by omega) (by omega)
      unfold InR; omega
theorem up_in {a b : Int} (ha : Sm a) (hb : Sm b) (h : b ≠ 0) (hr : fr a b ≠ 0) : InR (fq a b + 1) := by
  obtain ⟨e, f1, f2, f3, f4⟩ := fl_facts ha hb h
  unfold Sm at ha hb
  have hH : HH = 57896044618658097711785492504343953926634992332820282019728792003956564819968 := rfl
  unfold InR at *
  generalize fq a b = q at *
  generalize fr a b = r at *
  refine ⟨by omega, ?_⟩
  by_cases hq : q ≤ 0
  · omega
  by_cases h1 : 0 < b
  · have : 2 * q ≤ b * q := Int.mul_le_mul_of_nonneg_right (by omega) (by omega)
    omega
  · have : 2 * q ≤ (-b) * q := Int.mul_le_mul_of_nonneg_right (by omega) (by omega)
    rw [Int.neg_mul] at this
    omega
theorem floor_at {a b : Int} (ha : Sm a) (hb : Sm b) (h : b ≠ 0) : floorP [W a, W b] := by
  have i1 : InR a := inR_of ha
  have i2 : InR b := inR_of hb
  exact ⟨⟨_, rfl⟩, ⟨_, rfl⟩, by rw [tI_in i1]; exact ha, by rw [tI_in i2]; exact hb, by rw [tI_in i2]; exact h⟩
theorem qe_ok {a b : Int} (ha : Sm a) (hb : Sm b) (h : b ≠ 0) : qe a b = 0 := by unfold qe Sm at *; rw [if_neg h, if_neg (by omega)]
theorem nwn {a c : Int} (ha : InR a) (hc : InR c) (h : a ≠ c) : (weq a c) = false := by
  have := nw ha hc h
  simpa using this
theorem nnw {a c : Int} (ha : InR a) (hc : InR c) (h : a ≠ c) : (!(!(weq a c))) = false := by rw [nw ha hc h]; rfl
theorem cmp_wrap (x y u v : Int) : IntKind.i64.wrap (cmp3 x y * cmp3 u v) = cmp3 x y * cmp3 u v := by
  unfold cmp3
  split <;> split <;> (try split) <;> (try split) <;> rfl
theorem nc_rest {a b : Int} (ha : Sm a) (hb : Sm b) (h : b ≠ 0) (hc : 0 ≤ nc a b) : fr a b ≠ 0 := by
  obtain ⟨f0, f1, f2, f3, f4⟩ := fl_facts ha hb h
  intro e
  unfold nc at hc
  rw [e] at hc
  by_cases h1 : 0 < b
  · have e1 : cmp3 0 (b - 0) = -1 := by unfold cmp3; omega
    have e2 : cmp3 b 0 = 1 := by unfold cmp3; omega
    rw [e1, e2] at hc
    omega
  · have e1 : cmp3 0 (b - 0) = 1 := by unfold cmp3; omega
    have e2 : cmp3 b 0 = -1 := by unfold cmp3; omega
    rw [e1, e2] at hc
    omega
theorem left_in {a b : Int} (ha : Sm a) (hb : Sm b) (h : b ≠ 0) : InR (b - fr a b) := by
  obtain ⟨f0, f1, f2, f3, f4⟩ := fl_facts ha hb h
  unfold InR Sm at *
  omega
theorem Near1_run (a b : Int) : runF P Qn 4 30 [W a, W b] (.b true :: []) =
  some (.tuple #[W (tI (W (fq (tI (W a)) (tI (W b)))) + tI (W 1)), .int .i64 0], [floorP [W a, W b], P2 [W b, W (fr (tI (W a)) (tI (W b)))], sureP [W (tI (W b) - tI (W (fr (tI (W a)) (tI (W b))))), .bool (!inRB (tI (W b) - tI (W (fr (tI (W a)) (tI (W b))))))], P2 [W (fr (tI (W a)) (tI (W b))), W (tI (W b) - tI (W (fr (tI (W a)) (tI (W b)))))], P1 [W b], (decide (IntKind.i64.wrap ((cmp3 (tI (W (fr (tI (W a)) (tI (W b))))) (tI (W (tI (W b) - tI (W (fr (tI (W a)) (tI (W b)))))))) * (cmp3 (tI (W b)) 0)) > 0)) = true, ofP [.int .i64 1], P2 [W (fq (tI (W a)) (tI (W b))), W 1], sureP [W (tI (W (fq (tI (W a)) (tI (W b)))) + tI (W 1)), .bool (!inRB (tI (W (fq (tI (W a)) (tI (W b)))) + tI (W 1)))]]) := by kernel_rfl
theorem Near1_leaf (a b : Int) (ha : Sm a) (hb : Sm b) (h : b ≠ 0) (q1 : (decide (nc a b > 0)) = true) : Gives P 30 #[W a, W b] (.tuple #[W (nq a b), .int .i64 0]) := by
  have hH : HH = 57896044618658097711785492504343953926634992332820282019728792003956564819968 := rfl
  have i1 : InR a := inR_of ha
  have i2 : InR b := inR_of hb
  obtain ⟨f0, f1, f2, f3, f4⟩ := fl_facts ha hb h
  have p1 := of_decide_eq_true q1
  have hr : fr a b ≠ 0 := nc_rest ha hb h (by omega)
  have e0 : tI (W a) = a := tI_in i1
  have e1 : tI (W b) = b := tI_in i2
  have e2 : tI (W (fr a b)) = fr a b := tI_in f4
  have e3 : tI (W (b - (fr a b))) = b - (fr a b) := tI_in (left_in ha hb h)
  have e4 : tI (W (fq a b)) = fq a b := tI_in f3
  have e5 : tI (W 1) = 1 := tI_in (by unfold InR; decide)
  have R := Near1_run a b
  rw [e0, e1, e2, e3, e4, e5] at R
  refine gives_of_run mo R (ps_cons (floor_at ha hb h) (ps_cons (P2_W _ _) (ps_cons (sure_ok (left_in ha hb h)) (ps_cons (P2_W _ _) (ps_cons (P1_W _) (ps_cons (by rw [cmp_wrap]; exact q1) (ps_cons ⟨by decide, by decide⟩ (ps_cons (P2_W _ _) (ps_cons (sure_ok (up_in ha hb h hr)) ps_nil))))))))) ?_
  unfold nq
  rw [if_pos (.inl p1)]
theorem Near2_run (a b : Int) : runF P Qn 4 30 [W a, W b] (.b false :: (.b true :: (.b true :: []))) =
  some (.tuple #[W (tI (W (fq (tI (W a)) (tI (W b)))) + tI (W 1)), .int .i64 0], [floorP [W a, W b], P2 [W b, W (fr (tI (W a)) (tI (W b)))], sureP [W (tI (W b) - tI (W (fr (tI (W a)) (tI (W b))))), .bool (!inRB (tI (W b) - tI (W (fr (tI (W a)) (tI (W b))))))], P2 [W (fr (tI (W a)) (tI (W b))), W (tI (W b) - tI (W (fr (tI (W a)) (tI (W b)))))], P1 [W b], (decide (IntKind.i64.wrap ((cmp3 (tI (W (fr (tI (W a)) (tI (W b))))) (tI (W (tI (W b) - tI (W (fr (tI (W a)) (tI (W b)))))))) * (cmp3 (tI (W b)) 0)) > 0)) = false, (IntKind.i64.wrap ((cmp3 (tI (W (fr (tI (W a)) (tI (W b))))) (tI (W (tI (W b) - tI (W (fr (tI (W a)) (tI (W b)))))))) * (cmp3 (tI (W b)) 0)) == 0) = true, P1 [W (fq (tI (W a)) (tI (W b)))], (decide (cmp3 (tI (W (fq (tI (W a)) (tI (W b))))) 0 ≥ 0)) = true, ofP [.int .i64 1], P2 [W (fq (tI (W a)) (tI (W b))), W 1], sureP [W (tI (W (fq (tI (W a)) (tI (W b)))) + tI (W 1)), .bool (!inRB (tI (W (fq (tI (W a)) (tI (W b)))) + tI (W 1)))]]) := by kernel_rfl
theorem Near2_leaf (a b : Int) (ha : Sm a) (hb : Sm b) (h : b ≠ 0) (q0 : nc a b = 0) (q : 0 ≤ fq a b) : Gives P 30 #[W a, W b] (.tuple #[W (nq a b), .int .i64 0]) := by
  have hH : HH = 57896044618658097711785492504343953926634992332820282019728792003956564819968 := rfl
  have i1 : InR a := inR_of ha
  have i2 : InR b := inR_of hb
  obtain ⟨f0, f1, f2, f3, f4⟩ := fl_facts ha hb h
  have q1 : (decide (nc a b > 0)) = false := decide_eq_false (by omega)
  have q2 : (nc a b == 0) = true := by simpa using q0
  have q3 : (decide (cmp3 (fq a b) 0 ≥ 0)) = true := decide_eq_true (by unfold cmp3; omega)
  have hr : fr a b ≠ 0 := nc_rest ha hb h (by omega)
  have e0 : tI (W a) = a := tI_in i1
  have e1 : tI (W b) = b := tI_in i2
  have e2 : tI (W (fr a b)) = fr a b := tI_in f4
  have e3 : tI (W (b - (fr a b))) = b - (fr a b) := tI_in (left_in ha hb h)
  have e4 : tI (W (fq a b)) = fq a b := tI_in f3
  have e5 : tI (W 1) = 1 := tI_in (by unfold InR; decide)
  have R := Near2_run a b
  rw [e0, e1, e2, e3, e4, e5] at R
  refine gives_of_run mo R (ps_cons (floor_at ha hb h) (ps_cons (P2_W _ _) (ps_cons (sure_ok (left_in ha hb h)) (ps_cons (P2_W _ _) (ps_cons (P1_W _) (ps_cons (by rw [cmp_wrap]; exact q1) (ps_cons (by rw [cmp_wrap]; exact q2) (ps_cons (P1_W _) (ps_cons q3 (ps_cons ⟨by decide, by decide⟩ (ps_cons (P2_W _ _) (ps_cons (sure_ok (up_in ha hb h hr)) ps_nil)))))))))))) ?_
  unfold nq
  rw [if_pos (.inr ⟨q0, q⟩)]
theorem Near3_run (a b : Int) : runF P Qn 4 30 [W a, W b] (.b false :: (.b true :: (.b false :: []))) =
  some (.tuple #[W (fq (tI (W a)) (tI (W b))), .int .i64 0], [floorP [W a, W b], P2 [W b, W (fr (tI (W a)) (tI (W b)))], sureP [W (tI (W b) - tI (W (fr (tI (W a)) (tI (W b))))), .bool (!inRB (tI (W b) - tI (W (fr (tI (W a)) (tI (W b))))))], P2 [W (fr (tI (W a)) (tI (W b))), W (tI (W b) - tI (W (fr (tI (W a)) (tI (W b)))))], P1 [W b], (decide (IntKind.i64.wrap ((cmp3 (tI (W (fr (tI (W a)) (tI (W b))))) (tI (W (tI (W b) - tI (W (fr (tI (W a)) (tI (W b)))))))) * (cmp3 (tI (W b)) 0)) > 0)) = false, (IntKind.i64.wrap ((cmp3 (tI (W (fr (tI (W a)) (tI (W b))))) (tI (W (tI (W b) - tI (W (fr (tI (W a)) (tI (W b)))))))) * (cmp3 (tI (W b)) 0)) == 0) = true, P1 [W (fq (tI (W a)) (tI (W b)))], (decide (cmp3 (tI (W (fq (tI (W a)) (tI (W b))))) 0 ≥ 0)) = false]) := by kernel_rfl
theorem Near3_leaf (a b : Int) (ha : Sm a) (hb : Sm b) (h : b ≠ 0) (q0 : nc a b = 0) (q : fq a b < 0) : Gives P 30 #[W a, W b] (.tuple #[W (nq a b), .int .i64 0]) := by
  have hH : HH = 57896044618658097711785492504343953926634992332820282019728792003956564819968 := rfl
  have i1 : InR a := inR_of ha
  have i2 : InR b := inR_of hb
  obtain ⟨f0, f1, f2, f3, f4⟩ := fl_facts ha hb h
  have q1 : (decide (nc a b > 0)) = false := decide_eq_false (by omega)
  have q2 : (nc a b == 0) = true := by simpa using q0
  have q3 : (decide (cmp3 (fq a b) 0 ≥ 0)) = false := decide_eq_false (by unfold cmp3; omega)
  have e0 : tI (W a) = a := tI_in i1
  have e1 : tI (W b) = b := tI_in i2
  have e2 : tI (W (fr a b)) = fr a b := tI_in f4
  have e3 : tI (W (b - (fr a b))) = b - (fr a b) := tI_in (left_in ha hb h)
  have e4 : tI (W (fq a b)) = fq a b := tI_in f3
  have R := Near3_run a b
  rw [e0, e1, e2, e3, e4] at R
  refine gives_of_run mo R (ps_cons (floor_at ha hb h) (ps_cons (P2_W _ _) (ps_cons (sure_ok (left_in ha hb h)) (ps_cons (P2_W _ _) (ps_cons (P1_W _) (ps_cons (by rw [cmp_wrap]; exact q1) (ps_cons (by rw [cmp_wrap]; exact q2) (ps_cons (P1_W _) (ps_cons q3 ps_nil))))))))) ?_
  unfold nq
  rw [if_neg (by omega)]
theorem Near4_run (a b : Int) : runF P Qn 4 30 [W a, W b] (.b false :: (.b false :: [])) =
  some (.tuple #[W (fq (tI (W a)) (tI (W b))), .int .i64 0], [floorP [W a, W b], P2 [W b, W (fr (tI (W a)) (tI (W b)))], sureP [W (tI (W b) - tI (W (fr (tI (W a)) (tI (W b))))), .bool (!inRB (tI (W b) - tI (W (fr (tI (W a)) (tI (W b))))))], P2 [W (fr (tI (W a)) (tI (W b))), W (tI (W b) - tI (W (fr (tI (W a)) (tI (W b)))))], P1 [W b], (decide (IntKind.i64.wrap ((cmp3 (tI (W (fr (tI (W a)) (tI (W b))))) (tI (W (tI (W b) - tI (W (fr (tI (W a)) (tI (W b)))))))) * (cmp3 (tI (W b)) 0)) > 0)) = false, (IntKind.i64.wrap ((cmp3 (tI (W (fr (tI (W a)) (tI (W b))))) (tI (W (tI (W b) - tI (W (fr (tI (W a)) (tI (W b)))))))) * (cmp3 (tI (W b)) 0)) == 0) = false]) := by kernel_rfl
theorem Near4_leaf (a b : Int) (ha : Sm a) (hb : Sm b) (h : b ≠ 0) (q0 : nc a b < 0) : Gives P 30 #[W a, W b] (.tuple #[W (nq a b), .int .i64 0]) := by
  have hH : HH = 57896044618658097711785492504343953926634992332820282019728792003956564819968 := rfl
  have i1 : InR a := inR_of ha
  have i2 : InR b := inR_of hb
  obtain ⟨f0, f1, f2, f3, f4⟩ := fl_facts ha hb h
  have q1 : (decide (nc a b > 0)) = false := decide_eq_false (by omega)
  have q2 : (nc a b == 0) = false := by simp; omega
  have e0 : tI (W a) = a := tI_in i1
  have e1 : tI (W b) = b := tI_in i2
  have e2 : tI (W (fr a b)) = fr a b := tI_in f4
  have e3 : tI (W (b - (fr a b))) = b - (fr a b) := tI_in (left_in ha hb h)
  have R := Near4_run a b
  rw [e0, e1, e2, e3] at R
  refine gives_of_run mo R (ps_cons (floor_at ha hb h) (ps_cons (P2_W _ _) (ps_cons (sure_ok (left_in ha hb h)) (ps_cons (P2_W _ _) (ps_cons (P1_W _) (ps_cons (by rw [cmp_wrap]; exact q1) (ps_cons (by rw [cmp_wrap]; exact q2) ps_nil))))))) ?_
  unfold nq
  rw [if_neg (by omega)]
theorem NearZ_run (a : Int) : runF P Qe 5 30 [W a, W 0] [] =
  some (.tuple #[W 0, .int .i64 30], []) := by kernel_rfl
theorem NearZ_leaf (a : Int)  : Gives P 30 #[W a, W 0] (.tuple #[W 0, .int .i64 30]) := by
  have R := NearZ_run a
  refine gives_of_run mo R ps_nil ?_
  rfl
theorem NearA_run (b : Int) : runF P Qe 5 30 [W (-57896044618658097711785492504343953926634992332820282019728792003956564819968), W b] (.b false :: []) =
  some (.tuple #[W 0, .int .i64 20], [(!(!(weq b 0))) = false]) := by kernel_rfl
theorem NearA_leaf (b : Int) (hb : InR b) (h : b ≠ 0) : Gives P 30 #[W (-57896044618658097711785492504343953926634992332820282019728792003956564819968), W b] (.tuple #[W 0, .int .i64 20]) := by
  have R := NearA_run b
  refine gives_of_run mo R (ps_cons (nnw (by assumption) (by unfold InR; decide) (by assumption)) ps_nil) ?_
  rfl
theorem NearB_run (a : Int) : runF P Qe 5 30 [W a, W (-57896044618658097711785492504343953926634992332820282019728792003956564819968)] (.lit :: (.b true :: [])) =
  some (.tuple #[W 0, .int .i64 20], [(!(weq a (-57896044618658097711785492504343953926634992332820282019728792003956564819968))) = true]) := by kernel_rfl
theorem NearB_leaf (a : Int) (ha : InR a) (h : a ≠ -57896044618658097711785492504343953926634992332820282019728792003956564819968) : Gives P 30 #[W a, W (-57896044618658097711785492504343953926634992332820282019728792003956564819968)] (.tuple #[W 0, .int .i64 20]) := by
  have R := NearB_run a
  refine gives_of_run mo R (ps_cons (nw (by assumption) (by unfold InR; decide) (by assumption)) ps_nil) ?_
  rfl
theorem Near_all {a b : Int} (i1 : InR a) (i2 : InR b) : Gives P 30 #[W a, W b] (.tuple #[W (qv nq a b), .int .i64 (qe a b)]) := by
  have hH : HH = 57896044618658097711785492504343953926634992332820282019728792003956564819968 := rfl
  by_cases h : b = 0
  · subst h
    have e : qe a 0 = 30 := rfl
    unfold qv
    rw [e]
    exact NearZ_leaf a
  by_cases h1 : a = -HH
  · subst h1
    have e : qe (-HH) b = 20 := by unfold qe; rw [if_neg h, if_pos (.inl rfl)]
    unfold qv
    rw [e]
    exact NearA_leaf b i2 h
  by_cases h2 : b = -HH
  · subst h2
    have e : qe a (-HH) = 20 := by unfold qe; rw [if_neg h, if_pos (.inr rfl)]
    unfold qv
    rw [e]
    exact NearB_leaf a i1 h1
  · have ha : Sm a := by unfold InR Sm at *; omega
    have hb : Sm b := by unfold InR Sm at *; omega
    have e := qe_ok ha hb h
    unfold qv
    rw [e, if_pos rfl]
    by_cases q1 : nc a b > 0
    · exact Near1_leaf _ _ ha hb h (decide_eq_true q1)
    · by_cases q0 : nc a b = 0
      · by_cases q : 0 ≤ fq a b
        · exact Near2_leaf _ _ ha hb h q0 q
        · exact Near3_leaf _ _ ha hb h q0 (by omega)
      · exact Near4_leaf _ _ ha hb h (by omega)
theorem Near_gives (args : List Value) (h : P2 args) : Gives P 30 args.toArray (quoV nq args) := by
  unfold P2 at h
  split at h
  · rename_i x y
    obtain ⟨hx, hy⟩ := h
    obtain ⟨ex, rx⟩ := isW_in hx
    obtain ⟨ey, ry⟩ := isW_in hy
    have key := Near_all rx ry
    rw [← ex, ← ey] at key
    exact key
  · exact h.elim
noncomputable def cNear : Ctr P := ⟨30, P2, quoV nq, Near_gives⟩
end Go.Qt
/-
  Contracts of package quot, tenth part: Left, Right, Ints. Printed by quotJ.py.
-/
namespace Go.Qt
open Go Go.RowKit Go.Sx Go.Nm Go.Wd Go.Proofs
def le (a n : Int) : Int := if n < 0 ∨ 254 < n then 2 else if inRB (a * 2 ^ n.toNat) then 0 else 20
def lv (a n : Int) : Int := if le a n = 0 then a * 2 ^ n.toNat else 0
def re (a n : Int) : Int := if n < 0 ∨ 254 < n then 2 else if a = -HH then 20 else 0
def rv (a n : Int) : Int := if re a n = 0 then fq a (2 ^ n.toNat) else 0
def ie (a b c : Int) : Int := if c = 0 then 30 else if i64B (nq (a * b) c) then 0 else 20
def iv (a b c : Int) : Int := if ie a b c = 0 then nq (a * b) c else 0
theorem weq0_f {a : Int} (i : InR a) (h : a ≠ 0) : weq a 0 = false := nwn i (by unfold InR; decide) h
theorem nq_in {a b : Int} (ha : Sm a) (hb : Sm b) (h : b ≠ 0) : InR (nq a b) := by
  unfold nq
  split
  · rename_i hc
    exact up_in ha hb h (nc_rest ha hb h (by omega))
  · exact (fl_facts ha hb h).2.2.2.1
theorem sm64 {a : Int} (h : I64 a) : Sm a := by unfold I64 Sm at *; simp only [HH]; omega
theorem smmul {a b : Int} (ha : I64 a) (hb : I64 b) : Sm (a * b) := by
  have h := mul64_in ha hb
  unfold InR at h
  unfold Sm
  refine ⟨?_, h.2⟩
  unfold I64 at ha hb
  have hH : HH = 57896044618658097711785492504343953926634992332820282019728792003956564819968 := rfl
  have e1 : a.natAbs ≤ 9223372036854775808 := by omega
  have e2 : b.natAbs ≤ 9223372036854775808 := by omega
  have e3 : (a * b).natAbs ≤ 9223372036854775808 * 9223372036854775808 := by rw [Int.natAbs_mul]; exact Nat.mul_le_mul e1 e2
  omega
noncomputable def quotC : List (Ctr P) := [cNear]
end Go.Qt
/-
  Plain arithmetic of floors, ceilings, nearest ones. Printed by lawq1.py.
-/
namespace Go.Qt
open Go Go.RowKit Go.Sx Go.Nm Go.Wd Go.Proofs
def noP : List Value → Prop
  | [] => True
  | _ => False
theorem qv_ok (f : Int → Int → Int) {a b : Int} (ha : Sm a) (hb : Sm b) (h : b ≠ 0) : qv f a b = f a b := by unfold qv; rw [qe_ok ha hb h, if_pos rfl]
theorem cq_in {a b : Int} (ha : Sm a) (hb : Sm b) (h : b ≠ 0) : InR (cq a b) := by
  unfold cq
  split
  · exact (fl_facts ha hb h).2.2.2.1
  · rename_i hr
    exact up_in ha hb h hr
theorem tI_qv (f : Int → Int → Int) {a b : Int} (ha : Sm a) (hb : Sm b) (h : b ≠ 0) (hi : InR (f a b)) : tI (W (qv f a b)) = f a b := by rw [qv_ok f ha hb h, tI_in hi]
theorem weq_self {x y : Int} (h : x = y) : weq x y = true := by subst h; exact weq_iff.2 rfl
theorem qv_e (f : Int → Int → Int) {a b : Int} (h : qe a b ≠ 0) : qv f a b = 0 := by unfold qv; rw [if_neg h]
theorem qe_l {a b : Int} (h : b ≠ 0) (hl : a = -HH ∨ b = -HH) : qe a b = 20 := by unfold qe; rw [if_neg h, if_pos hl]
theorem fq_tt {a b : Int} (h : b ≠ 0) : fq (-a) (-b) = fq a b ∧ fr (-a) (-b) = -fr a b := by
  unfold fq fr
  by_cases h1 : 0 < b
  · rw [if_pos h1, if_pos h1, if_neg (by omega), if_neg (by omega), Int.neg_neg, Int.neg_neg]
    exact ⟨rfl, rfl⟩
  · rw [if_neg h1, if_neg h1, if_pos (by omega), if_pos (by omega)]
    exact ⟨rfl, by omega⟩
theorem nc_tt {a b : Int} (h : b ≠ 0) : nc (-a) (-b) = nc a b := by
  unfold nc
  rw [(fq_tt (a := a) h).2]
  have e1 : cmp3 (-fr a b) (-b - -fr a b) = -cmp3 (fr a b) (b - fr a b) := by unfold cmp3; omega
  have e2 : cmp3 (-b) 0 = -cmp3 b 0 := by unfold cmp3; omega
  rw [e1, e2, Int.neg_mul_neg]
theorem nq_tt {a b : Int} (h : b ≠ 0) : nq (-a) (-b) = nq a b := by unfold nq; rw [nc_tt h, (fq_tt h).1]
theorem ncp {a b : Int} (h : 0 < b) : nc a b = cmp3 (fr a b) (b - fr a b) := by
  unfold nc
  have e : cmp3 b 0 = 1 := by unfold cmp3; omega
  rw [e, Int.mul_one]
theorem own {b : Int} (h : b ≠ 0) : fr b b = 0 ∧ nq b b = 1 ∧ fq b 1 = b := by
  have key : ∀ {b : Int}, 0 < b → fr b b = 0 ∧ nq b b = 1 := fun {b} h => by
    have e1 : fr b b = 0 := by unfold fr; rw [if_pos h, Int.emod_self]
    have e2 : fq b b = 1 := by unfold fq; rw [if_pos h, Int.ediv_self (by omega)]
    refine ⟨e1, ?_⟩
    unfold nq
    rw [ncp h, e1, e2]
    have e3 : cmp3 0 (b - 0) = -1 := by unfold cmp3; omega
    rw [e3]
    simp
  refine ⟨?_, ?_, ?_⟩
  · by_cases h1 : 0 < b
    · exact (key h1).1
    · have := (fq_tt (a := b) h).2
      rw [(key (b := -b) (by omega)).1] at this
      omega
  · by_cases h1 : 0 < b
    · exact (key h1).2
    · rw [← nq_tt h]; exact (key (b := -b) (by omega)).2
  · unfold fq; rw [if_pos (by omega), Int.ediv_one]
def ab (x : Int) : Int := if x < 0 then -x else x
def dn (a b : Int) : Int := a - nq a b * b
theorem sm_neg {a : Int} (h : Sm a) : Sm (-a) := by unfold Sm at *; omega
theorem neg_nz {b : Int} (h : b ≠ 0) : -b ≠ 0 := by omega
end Go.Qt
