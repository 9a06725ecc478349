/-
  Contracts of package quot, eighth part: floor. Printed by quotH.py.
-/
import Derived.Test.YtjfcndiodbaejaaDoorQuotG
import Derived.Test.YtjfcndiodbaejaaDoorLawA
set_option maxRecDepth 100000
namespace Go.Qt
open Go Go.RowKit Go.Sx Go.Nm Go.Wd Go.Proofs

/-! ### The floor, and the rest, of whole numbers -/
def fq (a b : Int) : Int := if 0 < b then a / b else (-a) / (-b)
def fr (a b : Int) : Int := if 0 < b then a % b else -((-a) % (-b))
/-- Numbers with a negative in the set. -/
def Sm (a : Int) : Prop := -HH < a ∧ a < HH
theorem neg_div {a b : Int} (hb : 0 < b) (_ : a < 0) : a / b = -((-(a + 1)) / b) - 1 ∧ a % b = b - 1 - (-(a + 1)) % b := by
  have e := Int.mul_ediv_add_emod (-(a + 1)) b
  have r0 := Int.emod_nonneg (-(a + 1)) (b := b) (by omega)
  have r1 := Int.emod_lt_of_pos (-(a + 1)) hb
  generalize (-(a + 1)) / b = t at *
  generalize (-(a + 1)) % b = r at *
  have := (Int.ediv_emod_unique (a := a) (b := b) (r := b - 1 - r) (q := -t - 1) hb).2 ⟨by rw [Int.mul_sub, Int.mul_neg]; omega, by omega, by omega⟩
  exact this
theorem div_bound {a b : Int} (ha : 0 ≤ a) (hb : 0 < b) : 0 ≤ a / b ∧ a / b ≤ a ∧ 0 ≤ a % b ∧ a % b < b ∧ a % b ≤ a :=
  ⟨Int.ediv_nonneg ha (by omega), Int.ediv_le_self b ha, Int.emod_nonneg a (by omega), Int.emod_lt_of_pos a hb, emod_le ha hb⟩
theorem sure_ok {n : Int} (h : InR n) : sureP [W n, .bool (!inRB n)] := ⟨⟨_, rfl⟩, by rw [inRB_of h]; rfl⟩
theorem sure_at {n m : Int} (e : m = n) (h : InR n) : sureP [W m, .bool (!inRB m)] := by subst e; exact sure_ok h
theorem plain_at {m n : Int} (hm : InR m) (hn : InR n) (h0 : 0 ≤ m) (h1 : 0 < n) : plainP [W m, W n] := ⟨⟨_, rfl⟩, ⟨_, rfl⟩, by rw [tI_in hm]; exact h0, by rw [tI_in hn]; exact h1⟩
def floorP : List Value → Prop
  | [x, y] => IsW x ∧ IsW y ∧ Sm (tI x) ∧ Sm (tI y) ∧ tI y ≠ 0
  | _ => False
def floorV : List Value → Value
  | [x, y] => .tuple #[W (fq (tI x) (tI y)), W (fr (tI x) (tI y))]
  | _ => undef
noncomputable def QF : Env P := ⟨⟨[must, sure, plain] ++ wideC, []⟩, [], 10, []⟩
theorem nw {a c : Int} (ha : InR a) (hc : InR c) (h : a ≠ c) : (!(weq a c)) = true := by
  rw [weq_eq, Bool.not_eq_true', decide_eq_false_iff_not]
  unfold InR at *
  simp only [HH, MM] at *
  omega
theorem lt_t {x : Int} (h : x < 0) : (decide (cmp3 x 0 < 0)) = true := decide_eq_true (by unfold cmp3; omega)
theorem lt_f {x : Int} (h : ¬ x < 0) : (decide (cmp3 x 0 < 0)) = false := decide_eq_false (by unfold cmp3; omega)
theorem inR_of {n : Int} (h : -HH < n ∧ n < HH) : InR n := ⟨by omega, h.2⟩
theorem fl0_run (a b : Int) : runF P QF 1 100 [W a, W b] (.b true :: (.b false :: (.b false :: (.b false :: [])))) =
  some (.tuple #[W (tI (W a) / tI (W b)), W (tI (W a) % tI (W b))],
    [mustP [.bool (!(weq b 0)), .int .i64 30],
     (!(weq a (-57896044618658097711785492504343953926634992332820282019728792003956564819968))) = true,
     mustP [.bool (!(weq b (-57896044618658097711785492504343953926634992332820282019728792003956564819968))), .int .i64 20],
     P1 [W b],
     (decide (cmp3 (tI (W b)) 0 < 0)) = false,
     P1 [W a],
     (decide (cmp3 (tI (W a)) 0 < 0)) = false,
     plainP [W a, W b],
     (decide (cmp3 (tI (W b)) 0 < 0)) = false]) := by kernel_rfl
theorem fl0_leaf (a b : Int) (ha : Sm a) (hb : Sm b) (h1 : 0 < b) (h2 : 0 ≤ a) : Gives P 100 #[W a, W b] (.tuple #[W (fq a b), W (fr a b)]) := by
  unfold Sm at ha hb
  have hH : HH = 57896044618658097711785492504343953926634992332820282019728792003956564819968 := rfl
  obtain ⟨d0, d1, d2, d3, d4⟩ := div_bound (a := a) (b := b) h2 h1
  have e0 : tI (W b) = b := tI_in (by unfold InR; omega)
  have e1 : tI (W a) = a := tI_in (by unfold InR; omega)
  have R := fl0_run a b
  rw [e0, e1] at R
  refine gives_of_run mo R (ps_cons (nw (inR_of (by omega)) (by unfold InR; decide) (by omega)) (ps_cons (nw (inR_of (by omega)) (by unfold InR; decide) (by omega)) (ps_cons (nw (inR_of (by omega)) (by unfold InR; decide) (by omega)) (ps_cons (P1_W _) (ps_cons (lt_f (by omega)) (ps_cons (P1_W _) (ps_cons (lt_f (by omega)) (ps_cons (plain_at (by unfold InR; omega) (by unfold InR; omega) (by omega) (by omega)) (ps_cons (lt_f (by omega)) ps_nil))))))))) ?_
  unfold fq fr
  rw [if_pos (by omega), if_pos (by omega)]
theorem fl1_run (a b : Int) : runF P QF 1 100 [W a, W b] (.b true :: (.b false :: (.b true :: (.b false :: [])))) =
  some (.tuple #[W (tI (W (-tI (W (tI (W (-tI (W (tI (W a) + tI (W 1))))) / tI (W b))))) - tI (W 1)), W (tI (W (tI (W b) - tI (W 1))) - tI (W (tI (W (-tI (W (tI (W a) + tI (W 1))))) % tI (W b))))],
    [mustP [.bool (!(weq b 0)), .int .i64 30],
     (!(weq a (-57896044618658097711785492504343953926634992332820282019728792003956564819968))) = true,
     mustP [.bool (!(weq b (-57896044618658097711785492504343953926634992332820282019728792003956564819968))), .int .i64 20],
     P1 [W b],
     (decide (cmp3 (tI (W b)) 0 < 0)) = false,
     P1 [W a],
     (decide (cmp3 (tI (W a)) 0 < 0)) = true,
     ofP [.int .i64 1],
     P2 [W a, W 1],
     sureP [W (tI (W a) + tI (W 1)), .bool (!inRB (tI (W a) + tI (W 1)))],
     P1 [W (tI (W a) + tI (W 1))],
     sureP [W (-tI (W (tI (W a) + tI (W 1)))), .bool (!inRB (-tI (W (tI (W a) + tI (W 1)))))],
     plainP [W (-tI (W (tI (W a) + tI (W 1)))), W b],
     P1 [W (tI (W (-tI (W (tI (W a) + tI (W 1))))) / tI (W b))],
     sureP [W (-tI (W (tI (W (-tI (W (tI (W a) + tI (W 1))))) / tI (W b)))), .bool (!inRB (-tI (W (tI (W (-tI (W (tI (W a) + tI (W 1))))) / tI (W b)))))],
     ofP [.int .i64 1],
     P2 [W (-tI (W (tI (W (-tI (W (tI (W a) + tI (W 1))))) / tI (W b)))), W 1],
     sureP [W (tI (W (-tI (W (tI (W (-tI (W (tI (W a) + tI (W 1))))) / tI (W b))))) - tI (W 1)), .bool (!inRB (tI (W (-tI (W (tI (W (-tI (W (tI (W a) + tI (W 1))))) / tI (W b))))) - tI (W 1)))],
     ofP [.int .i64 1],
     P2 [W b, W 1],
     sureP [W (tI (W b) - tI (W 1)), .bool (!inRB (tI (W b) - tI (W 1)))],
     P2 [W (tI (W b) - tI (W 1)), W (tI (W (-tI (W (tI (W a) + tI (W 1))))) % tI (W b))],
     sureP [W (tI (W (tI (W b) - tI (W 1))) - tI (W (tI (W (-tI (W (tI (W a) + tI (W 1))))) % tI (W b)))), .bool (!inRB (tI (W (tI (W b) - tI (W 1))) - tI (W (tI (W (-tI (W (tI (W a) + tI (W 1))))) % tI (W b)))))],
     (decide (cmp3 (tI (W b)) 0 < 0)) = false]) := by kernel_rfl
theorem fl1_leaf (a b : Int) (ha : Sm a) (hb : Sm b) (h1 : 0 < b) (h2 : a < 0) : Gives P 100 #[W a, W b] (.tuple #[W (fq a b), W (fr a b)]) := by
  unfold Sm at ha hb
  have hH : HH = 57896044618658097711785492504343953926634992332820282019728792003956564819968 := rfl
  obtain ⟨d0, d1, d2, d3, d4⟩ := div_bound (a := -(a + 1)) (b := b) (by omega) h1
  obtain ⟨g1, g2⟩ := neg_div h1 h2
  have e0 : tI (W b) = b := tI_in (by unfold InR; omega)
  have e1 : tI (W a) = a := tI_in (by unfold InR; omega)
  have e2 : tI (W 1) = 1 := tI_in (by unfold InR; omega)
  have e3 : tI (W (a + 1)) = a + 1 := tI_in (by unfold InR; omega)
  have e4 : tI (W (-(a + 1))) = (-(a + 1)) := tI_in (by unfold InR; omega)
  have e5 : tI (W ((-(a + 1)) / b)) = (-(a + 1)) / b := tI_in (by unfold InR; omega)
  have e6 : tI (W (-((-(a + 1)) / b))) = (-((-(a + 1)) / b)) := tI_in (by unfold InR; omega)
  have e7 : tI (W (b - 1)) = b - 1 := tI_in (by unfold InR; omega)
  have e8 : tI (W ((-(a + 1)) % b)) = (-(a + 1)) % b := tI_in (by unfold InR; omega)
  have R := fl1_run a b
  rw [e0, e1, e2, e3, e4, e5, e6, e7, e8] at R
  refine gives_of_run mo R (ps_cons (nw (inR_of (by omega)) (by unfold InR; decide) (by omega)) (ps_cons (nw (inR_of (by omega)) (by unfold InR; decide) (by omega)) (ps_cons (nw (inR_of (by omega)) (by unfold InR; decide) (by omega)) (ps_cons (P1_W _) (ps_cons (lt_f (by omega)) (ps_cons (P1_W _) (ps_cons (lt_t (by omega)) (ps_cons ⟨by decide, by decide⟩ (ps_cons (P2_W _ _) (ps_cons (sure_ok (by unfold InR; omega)) (ps_cons (P1_W _) (ps_cons (sure_ok (by unfold InR; omega)) (ps_cons (plain_at (by unfold InR; omega) (by unfold InR; omega) (by omega) (by omega)) (ps_cons (P1_W _) (ps_cons (sure_ok (by unfold InR; omega)) (ps_cons ⟨by decide, by decide⟩ (ps_cons (P2_W _ _) (ps_cons (sure_ok (by unfold InR; omega)) (ps_cons ⟨by decide, by decide⟩ (ps_cons (P2_W _ _) (ps_cons (sure_ok (by unfold InR; omega)) (ps_cons (P2_W _ _) (ps_cons (sure_ok (by unfold InR; omega)) (ps_cons (lt_f (by omega)) ps_nil)))))))))))))))))))))))) ?_
  unfold fq fr
  rw [if_pos (by omega), if_pos (by omega), g1, g2]
theorem fl2_run (a b : Int) : runF P QF 1 100 [W a, W b] (.b true :: (.b true :: (.b false :: (.b true :: [])))) =
  some (.tuple #[W (tI (W (-tI (W a))) / tI (W (-tI (W b)))), W (-tI (W (tI (W (-tI (W a))) % tI (W (-tI (W b))))))],
    [mustP [.bool (!(weq b 0)), .int .i64 30],
     (!(weq a (-57896044618658097711785492504343953926634992332820282019728792003956564819968))) = true,
     mustP [.bool (!(weq b (-57896044618658097711785492504343953926634992332820282019728792003956564819968))), .int .i64 20],
     P1 [W b],
     (decide (cmp3 (tI (W b)) 0 < 0)) = true,
     P1 [W a],
     sureP [W (-tI (W a)), .bool (!inRB (-tI (W a)))],
     P1 [W b],
     sureP [W (-tI (W b)), .bool (!inRB (-tI (W b)))],
     P1 [W (-tI (W a))],
     (decide (cmp3 (tI (W (-tI (W a)))) 0 < 0)) = false,
     plainP [W (-tI (W a)), W (-tI (W b))],
     (decide (cmp3 (tI (W b)) 0 < 0)) = true,
     P1 [W (tI (W (-tI (W a))) % tI (W (-tI (W b))))],
     sureP [W (-tI (W (tI (W (-tI (W a))) % tI (W (-tI (W b)))))), .bool (!inRB (-tI (W (tI (W (-tI (W a))) % tI (W (-tI (W b)))))))]]) := by kernel_rfl
theorem fl2_leaf (a b : Int) (ha : Sm a) (hb : Sm b) (h1 : b < 0) (h2 : a ≤ 0) : Gives P 100 #[W a, W b] (.tuple #[W (fq a b), W (fr a b)]) := by
  unfold Sm at ha hb
  have hH : HH = 57896044618658097711785492504343953926634992332820282019728792003956564819968 := rfl
  obtain ⟨d0, d1, d2, d3, d4⟩ := div_bound (a := -a) (b := -b) (by omega) (by omega)
  have e0 : tI (W b) = b := tI_in (by unfold InR; omega)
  have e1 : tI (W a) = a := tI_in (by unfold InR; omega)
  have e2 : tI (W (-a)) = (-a) := tI_in (by unfold InR; omega)
  have e3 : tI (W (-b)) = (-b) := tI_in (by unfold InR; omega)
  have e4 : tI (W ((-a) % (-b))) = (-a) % (-b) := tI_in (by unfold InR; omega)
  have R := fl2_run a b
  rw [e0, e1, e2, e3, e4] at R
  refine gives_of_run mo R (ps_cons (nw (inR_of (by omega)) (by unfold InR; decide) (by omega)) (ps_cons (nw (inR_of (by omega)) (by unfold InR; decide) (by omega)) (ps_cons (nw (inR_of (by omega)) (by unfold InR; decide) (by omega)) (ps_cons (P1_W _) (ps_cons (lt_t (by omega)) (ps_cons (P1_W _) (ps_cons (sure_ok (by unfold InR; omega)) (ps_cons (P1_W _) (ps_cons (sure_ok (by unfold InR; omega)) (ps_cons (P1_W _) (ps_cons (lt_f (by omega)) (ps_cons (plain_at (by unfold InR; omega) (by unfold InR; omega) (by omega) (by omega)) (ps_cons (lt_t (by omega)) (ps_cons (P1_W _) (ps_cons (sure_ok (by unfold InR; omega)) ps_nil))))))))))))))) ?_
  unfold fq fr
  rw [if_neg (by omega), if_neg (by omega)]
theorem fl3_run (a b : Int) : runF P QF 1 100 [W a, W b] (.b true :: (.b true :: (.b true :: (.b true :: [])))) =
  some (.tuple #[W (tI (W (-tI (W (tI (W (-tI (W (tI (W (-tI (W a))) + tI (W 1))))) / tI (W (-tI (W b))))))) - tI (W 1)), W (-tI (W (tI (W (tI (W (-tI (W b))) - tI (W 1))) - tI (W (tI (W (-tI (W (tI (W (-tI (W a))) + tI (W 1))))) % tI (W (-tI (W b))))))))],
    [mustP [.bool (!(weq b 0)), .int .i64 30],
     (!(weq a (-57896044618658097711785492504343953926634992332820282019728792003956564819968))) = true,
     mustP [.bool (!(weq b (-57896044618658097711785492504343953926634992332820282019728792003956564819968))), .int .i64 20],
     P1 [W b],
     (decide (cmp3 (tI (W b)) 0 < 0)) = true,
     P1 [W a],
     sureP [W (-tI (W a)), .bool (!inRB (-tI (W a)))],
     P1 [W b],
     sureP [W (-tI (W b)), .bool (!inRB (-tI (W b)))],
     P1 [W (-tI (W a))],
     (decide (cmp3 (tI (W (-tI (W a)))) 0 < 0)) = true,
     ofP [.int .i64 1],
     P2 [W (-tI (W a)), W 1],
     sureP [W (tI (W (-tI (W a))) + tI (W 1)), .bool (!inRB (tI (W (-tI (W a))) + tI (W 1)))],
     P1 [W (tI (W (-tI (W a))) + tI (W 1))],
     sureP [W (-tI (W (tI (W (-tI (W a))) + tI (W 1)))), .bool (!inRB (-tI (W (tI (W (-tI (W a))) + tI (W 1)))))],
     plainP [W (-tI (W (tI (W (-tI (W a))) + tI (W 1)))), W (-tI (W b))],
     P1 [W (tI (W (-tI (W (tI (W (-tI (W a))) + tI (W 1))))) / tI (W (-tI (W b))))],
     sureP [W (-tI (W (tI (W (-tI (W (tI (W (-tI (W a))) + tI (W 1))))) / tI (W (-tI (W b)))))), .bool (!inRB (-tI (W (tI (W (-tI (W (tI (W (-tI (W a))) + tI (W 1))))) / tI (W (-tI (W b)))))))],
     ofP [.int .i64 1],
     P2 [W (-tI (W (tI (W (-tI (W (tI (W (-tI (W a))) + tI (W 1))))) / tI (W (-tI (W b)))))), W 1],
     sureP [W (tI (W (-tI (W (tI (W (-tI (W (tI (W (-tI (W a))) + tI (W 1))))) / tI (W (-tI (W b))))))) - tI (W 1)), .bool (!inRB (tI (W (-tI (W (tI (W (-tI (W (tI (W (-tI (W a))) + tI (W 1))))) / tI (W (-tI (W b))))))) - tI (W 1)))],
     ofP [.int .i64 1],
     P2 [W (-tI (W b)), W 1],
     sureP [W (tI (W (-tI (W b))) - tI (W 1)), .bool (!inRB (tI (W (-tI (W b))) - tI (W 1)))],
     P2 [W (tI (W (-tI (W b))) - tI (W 1)), W (tI (W (-tI (W (tI (W (-tI (W a))) + tI (W 1))))) % tI (W (-tI (W b))))],
     sureP [W (tI (W (tI (W (-tI (W b))) - tI (W 1))) - tI (W (tI (W (-tI (W (tI (W (-tI (W a))) + tI (W 1))))) % tI (W (-tI (W b)))))), .bool (!inRB (tI (W (tI (W (-tI (W b))) - tI (W 1))) - tI (W (tI (W (-tI (W (tI (W (-tI (W a))) + tI (W 1))))) % tI (W (-tI (W b)))))))],
     (decide (cmp3 (tI (W b)) 0 < 0)) = true,
     P1 [W (tI (W (tI (W (-tI (W b))) - tI (W 1))) - tI (W (tI (W (-tI (W (tI (W (-tI (W a))) + tI (W 1))))) % tI (W (-tI (W b))))))],
     sureP [W (-tI (W (tI (W (tI (W (-tI (W b))) - tI (W 1))) - tI (W (tI (W (-tI (W (tI (W (-tI (W a))) + tI (W 1))))) % tI (W (-tI (W b)))))))), .bool (!inRB (-tI (W (tI (W (tI (W (-tI (W b))) - tI (W 1))) - tI (W (tI (W (-tI (W (tI (W (-tI (W a))) + tI (W 1))))) % tI (W (-tI (W b)))))))))]]) := by kernel_rfl
theorem fl3_leaf (a b : Int) (ha : Sm a) (hb : Sm b) (h1 : b < 0) (h2 : 0 < a) : Gives P 100 #[W a, W b] (.tuple #[W (fq a b), W (fr a b)]) := by
  unfold Sm at ha hb
  have hH : HH = 57896044618658097711785492504343953926634992332820282019728792003956564819968 := rfl
  obtain ⟨d0, d1, d2, d3, d4⟩ := div_bound (a := -(-a + 1)) (b := -b) (by omega) (by omega)
  obtain ⟨g1, g2⟩ := neg_div (a := -a) (b := -b) (by omega) (by omega)
  have e0 : tI (W b) = b := tI_in (by unfold InR; omega)
  have e1 : tI (W a) = a := tI_in (by unfold InR; omega)
  have e2 : tI (W (-a)) = (-a) := tI_in (by unfold InR; omega)
  have e3 : tI (W 1) = 1 := tI_in (by unfold InR; omega)
  have e4 : tI (W ((-a) + 1)) = (-a) + 1 := tI_in (by unfold InR; omega)
  have e5 : tI (W (-((-a) + 1))) = (-((-a) + 1)) := tI_in (by unfold InR; omega)
  have e6 : tI (W (-b)) = (-b) := tI_in (by unfold InR; omega)
  have e7 : tI (W ((-((-a) + 1)) / (-b))) = (-((-a) + 1)) / (-b) := tI_in (by unfold InR; omega)
  have e8 : tI (W (-((-((-a) + 1)) / (-b)))) = (-((-((-a) + 1)) / (-b))) := tI_in (by unfold InR; omega)
  have e9 : tI (W ((-b) - 1)) = (-b) - 1 := tI_in (by unfold InR; omega)
  have e10 : tI (W ((-((-a) + 1)) % (-b))) = (-((-a) + 1)) % (-b) := tI_in (by unfold InR; omega)
  have e11 : tI (W (((-b) - 1) - ((-((-a) + 1)) % (-b)))) = ((-b) - 1) - ((-((-a) + 1)) % (-b)) := tI_in (by unfold InR; omega)
  have R := fl3_run a b
  rw [e0, e1, e2, e3, e4, e5, e6, e7, e8, e9, e10, e11] at R
  refine gives_of_run mo R (ps_cons (nw (inR_of (by omega)) (by unfold InR; decide) (by omega)) (ps_cons (nw (inR_of (by omega)) (by unfold InR; decide) (by omega)) (ps_cons (nw (inR_of (by omega)) (by unfold InR; decide) (by omega)) (ps_cons (P1_W _) (ps_cons (lt_t (by omega)) (ps_cons (P1_W _) (ps_cons (sure_ok (by unfold InR; omega)) (ps_cons (P1_W _) (ps_cons (sure_ok (by unfold InR; omega)) (ps_cons (P1_W _) (ps_cons (lt_t (by omega)) (ps_cons ⟨by decide, by decide⟩ (ps_cons (P2_W _ _) (ps_cons (sure_ok (by unfold InR; omega)) (ps_cons (P1_W _) (ps_cons (sure_ok (by unfold InR; omega)) (ps_cons (plain_at (by unfold InR; omega) (by unfold InR; omega) (by omega) (by omega)) (ps_cons (P1_W _) (ps_cons (sure_ok (by unfold InR; omega)) (ps_cons ⟨by decide, by decide⟩ (ps_cons (P2_W _ _) (ps_cons (sure_ok (by unfold InR; omega)) (ps_cons ⟨by decide, by decide⟩ (ps_cons (P2_W _ _) (ps_cons (sure_ok (by unfold InR; omega)) (ps_cons (P2_W _ _) (ps_cons (sure_ok (by unfold InR; omega)) (ps_cons (lt_t (by omega)) (ps_cons (P1_W _) (ps_cons (sure_ok (by unfold InR; omega)) ps_nil)))))))))))))))))))))))))))))) ?_
  unfold fq fr
  rw [if_neg (by omega), if_neg (by omega), g1, g2]
theorem floor_gives (args : List Value) (h : floorP args) : Gives P 100 args.toArray (floorV args) := by
  unfold floorP at h
  split at h
  · rename_i x y
    obtain ⟨hx, hy, h1, h2, h3⟩ := h
    obtain ⟨ex, rx⟩ := isW_in hx
    obtain ⟨ey, ry⟩ := isW_in hy
    have key : Gives P 100 #[W (tI x), W (tI y)] (.tuple #[W (fq (tI x) (tI y)), W (fr (tI x) (tI y))]) := by
      by_cases hb : 0 < tI y
      · by_cases ha : 0 ≤ tI x
        · exact fl0_leaf _ _ h1 h2 hb ha
        · exact fl1_leaf _ _ h1 h2 hb (by omega)
      · by_cases ha : tI x ≤ 0
        · exact fl2_leaf _ _ h1 h2 (by omega) ha
        · exact fl3_leaf _ _ h1 h2 (by omega) (by omega)
    rw [← ex, ← ey] at key
    exact key
  · exact h.elim
noncomputable def floor : Ctr P := ⟨100, floorP, floorV, floor_gives⟩
end Go.Qt
