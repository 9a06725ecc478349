/-
 Roots of whole numbers: plain.
-/
import Derived.Test.YtekplphjbngabaaGreatDoorQtb
import Derived.Test.YtekplphjbngabaaGreatDoorIva
set_option maxRecDepth 100000
namespace Go.Rt
open Go Go.RowKit Go.Sx Go.Nm Go.Wd Go.Qt
def rtB : Nat → Int → Int → Int
 | 0, _, r => r
 | i + 1, a, r => bif decide ((r + 2 ^ i) * (r + 2 ^ i) ≤ a) then rtB i a (r + 2 ^ i) else rtB i a r
def rt (a : Int) : Int := rtB 128 a 0
def IsRt (a r : Int) : Prop := 0 ≤ r ∧ r * r ≤ a ∧ a < (r + 1) * (r + 1)
theorem sq_lt {x y : Int} (h0 : 0 ≤ x) (h : x < y) : x * x < y * y := by
 have h1 := Int.mul_le_mul_of_nonneg_left (Int.le_of_lt h) h0
 have h2 := Int.mul_lt_mul_of_pos_right h (show 0 < y by omega)
 omega
theorem sq_le {x y : Int} (h0 : 0 ≤ x) (h : x ≤ y) : x * x ≤ y * y := by
 rcases Int.lt_or_eq_of_le h with h | h
 · exact Int.le_of_lt (sq_lt h0 h)
 · rw [h]; exact Int.le_refl _
theorem mul_self_nonneg' (x : Int) : 0 ≤ x * x := by
 rcases Int.le_total 0 x with h | h
 · exact Int.mul_nonneg h h
 · have := Int.mul_nonneg (show 0 ≤ -x by omega) (show 0 ≤ -x by omega)
   rw [Int.neg_mul_neg] at this; exact this
theorem IsRt.unique {a r s : Int} (h : IsRt a r) (k : IsRt a s) : r = s := by
 obtain ⟨h0, h1, h2⟩ := h
 obtain ⟨k0, k1, k2⟩ := k
 rcases Int.lt_trichotomy r s with c | c | c
 · have := sq_le (show 0 ≤ r + 1 by omega) (show r + 1 ≤ s by omega); omega
 · exact c
 · have := sq_le (show 0 ≤ s + 1 by omega) (show s + 1 ≤ r by omega); omega
theorem p2_succ (i : Nat) : (2 : Int) ^ (i + 1) = 2 ^ i + 2 ^ i := by rw [Int.pow_succ]; omega
theorem rtB_is {a : Int} : ∀ {i : Nat} {r : Int}, 0 ≤ r → r * r ≤ a → a < (r + 2 ^ i) * (r + 2 ^ i) → IsRt a (rtB i a r)
 | 0, r, h0, h1, h2 => ⟨h0, h1, by show a < (r + 1) * (r + 1); rw [Int.pow_zero] at h2; exact h2⟩
 | i + 1, r, h0, h1, h2 => by
  have hp := pow2_pos i
  unfold rtB
  by_cases h : (r + 2 ^ i) * (r + 2 ^ i) ≤ a
  · rw [decide_eq_true h]
    refine rtB_is (by omega) h ?_
    rw [p2_succ, ← Int.add_assoc] at h2
    exact h2
  · rw [decide_eq_false h]
    exact rtB_is h0 h1 (by omega)
theorem rt_is {a : Int} (h0 : 0 ≤ a) (h1 : a < HH) : IsRt a (rt a) := by
 refine rtB_is (Int.le_refl _) (by simpa using h0) ?_
 have : ((0 : Int) + 2 ^ 128) * (0 + 2 ^ 128) = 2 * HH := by decide
 rw [this]
 have : (0 : Int) < HH := by decide
 omega
theorem rt_range {a : Int} (h0 : 0 ≤ a) (h1 : a < HH) : 0 ≤ rt a ∧ rt a < 2 ^ 128 := by
 have h := rt_is h0 h1
 refine ⟨h.1, ?_⟩
 rcases Int.lt_or_le (rt a) (2 ^ 128) with c | c
 · exact c
 · exfalso
   have := sq_le (show (0 : Int) ≤ 2 ^ 128 by decide) c
   have e : (2 : Int) ^ 128 * 2 ^ 128 = 2 * HH := by decide
   have := h.2.1
   have : (0 : Int) < HH := by decide
   omega
def rc (a : Int) : Int := if rt a * rt a = a then rt a else rt a + 1
theorem rc_is {a : Int} (h0 : 0 ≤ a) (h1 : a < HH) : 0 ≤ rc a ∧ a ≤ rc a * rc a ∧ ∀ k, 0 ≤ k → a ≤ k * k → rc a ≤ k := by
 obtain ⟨g0, g1, g2⟩ := rt_is h0 h1
 unfold rc
 by_cases h : rt a * rt a = a
 · rw [if_pos h]
   refine ⟨g0, by omega, fun k hk h2 => ?_⟩
   rcases Int.lt_or_le k (rt a) with c | c
   · have := sq_lt hk c; omega
   · exact c
 · rw [if_neg h]
   refine ⟨by omega, by omega, fun k hk h2 => ?_⟩
   rcases Int.lt_or_le k (rt a + 1) with c | c
   · have := sq_le hk (show k ≤ rt a by omega); omega
   · exact c
end Go.Rt
/-
 Quotients, squares, roots, cubes of intervals: what the documents say of them, and plain laws, with no program in sight.
-/
namespace Go.Nv
open Go Go.RowKit Go.Sx Go.Nm Go.Wd Go.Qt Go.Iv Go.Rt
def qf (x y : Int) : Int := fq (x * 1073741824) y
def qc (x y : Int) : Int := cq (x * 1073741824) y
def loQ (a b : Iv) : Int := mn (mn (mn (qf a.lo b.lo) (qf a.lo b.hi)) (qf a.hi b.lo)) (qf a.hi b.hi)
def hiQ (a b : Iv) : Int := mx (mx (mx (qc a.lo b.lo) (qc a.lo b.hi)) (qc a.hi b.lo)) (qc a.hi b.hi)
def quotI (a b : Iv) : Iv := bif fineL [a, b] && (decide (b.lo > 0) || decide (b.hi < 0)) then told ⟨loQ a b, hiQ a b, false⟩ else bd
def least (a : Iv) : Int := mx (mx a.lo (-a.hi)) 0
def most (a : Iv) : Int := mx a.hi (-a.lo)
def squareI (a : Iv) : Iv := bif fineL [a] then told ⟨fq (least a * least a) 1073741824, cq (most a * most a) 1073741824, false⟩ else bd
def rootI (a : Iv) : Iv := bif fineL [a] && decide (0 ≤ a.lo) then told ⟨rt (a.lo * 1073741824), rc (a.hi * 1073741824), false⟩ else bd
def signN (a : Iv) : Int := bif fineL [a] then (if a.lo > 0 then 1 else if a.hi < 0 then -1 else 0) else 0
def signB (a : Iv) : Bool := fineL [a] && (decide (a.lo > 0) || (decide (a.hi < 0) || decide (a.hi = a.lo)))
theorem le_qf {k x y : Int} : (0 < y → (k ≤ qf x y ↔ k * y ≤ x * 1073741824)) ∧ (y < 0 → (k ≤ qf x y ↔ x * 1073741824 ≤ k * y)) := by
 refine ⟨fun h => le_fq h, fun h => ?_⟩
 unfold qf
 rw [(fq_flip h).1, le_fq (by omega), Int.mul_neg]
 omega
theorem qc_le {k x y : Int} : (0 < y → (qc x y ≤ k ↔ x * 1073741824 ≤ k * y)) ∧ (y < 0 → (qc x y ≤ k ↔ k * y ≤ x * 1073741824)) := by
 refine ⟨fun h => cq_le h, fun h => ?_⟩
 unfold qc
 rw [(fq_flip h).2, cq_le (by omega), Int.mul_neg]
 omega
theorem loQ_ge {a b : Iv} {k : Int} : k ≤ loQ a b ↔ ((k ≤ qf a.lo b.lo ∧ k ≤ qf a.lo b.hi) ∧ k ≤ qf a.hi b.lo) ∧ k ≤ qf a.hi b.hi := by
 unfold loQ; rw [mn_ge, mn_ge, mn_ge]
theorem hiQ_le {a b : Iv} {k : Int} : hiQ a b ≤ k ↔ ((qc a.lo b.lo ≤ k ∧ qc a.lo b.hi ≤ k) ∧ qc a.hi b.lo ≤ k) ∧ qc a.hi b.hi ≤ k := by
 unfold hiQ; rw [mx_le, mx_le, mx_le]
theorem lo_hi (a b : Iv) : loQ a b ≤ hiQ a b := by
 have h1 := (loQ_ge (a := a) (b := b)).1 (Int.le_refl _)
 have h2 := (hiQ_le (a := a) (b := b)).1 (Int.le_refl _)
 have h3 : qf a.lo b.lo ≤ qc a.lo b.lo := fq_le_cq _ _
 omega
theorem quot_good {a b : Iv} (h : (quotI a b).bad = false) : fine a = true ∧ fine b = true ∧ (0 < b.lo ∨ b.hi < 0) ∧ fine (quotI a b) = true ∧ quotI a b = ⟨loQ a b, hiQ a b, false⟩ := by
 unfold quotI at *
 cases hc : (fineL [a, b] && (decide (b.lo > 0) || decide (b.hi < 0))) with
 | false => rw [hc] at h; cases h
 | true =>
  rw [hc] at h
  obtain ⟨h1, h2⟩ := told_good h
  simp only [Bool.and_eq_true, Bool.or_eq_true, decide_eq_true_eq] at hc
  obtain ⟨fa, fb⟩ := fine2.1 hc.1
  simp only [cond_true]
  exact ⟨fa, fb, hc.2, by rw [h2]; exact h1, h2⟩
theorem quot_mk {a b : Iv} (fa : fine a = true) (fb : fine b = true) (hs : 0 < b.lo ∨ b.hi < 0) (h1 : -1152921504606846976 ≤ loQ a b) (h2 : hiQ a b ≤ 1152921504606846976) : quotI a b = ⟨loQ a b, hiQ a b, false⟩ ∧ fine (quotI a b) = true := by
 have hf : fine ⟨loQ a b, hiQ a b, false⟩ = true := fine_iff.2 ⟨rfl, h1, lo_hi a b, h2⟩
 have e : quotI a b = ⟨loQ a b, hiQ a b, false⟩ := by
  unfold quotI
  have : (decide (b.lo > 0) || decide (b.hi < 0)) = true := by simp only [Bool.or_eq_true, decide_eq_true_eq]; exact hs
  rw [fine2.2 ⟨fa, fb⟩, this]
  exact told_ok hf
 rw [e]; exact ⟨rfl, hf⟩
theorem ends_in {a b : Iv} (fa : fine a = true) (fb : fine b = true) {x y l u : Int} (hl : l ≤ loQ a b) (hu : hiQ a b ≤ u) (x1 : a.lo ≤ x) (x2 : x ≤ a.hi) (y1 : b.lo ≤ y) (y2 : y ≤ b.hi) :
 (0 < b.lo → l * y ≤ x * 1073741824 ∧ x * 1073741824 ≤ u * y) ∧ (b.hi < 0 → u * y ≤ x * 1073741824 ∧ x * 1073741824 ≤ l * y) := by
 have ra := fine_iff.1 fa
 have rb := fine_iff.1 fb
 have g1 := (loQ_ge (a := a) (b := b)).1 hl
 have g2 := (hiQ_le (a := a) (b := b)).1 hu
 constructor
 · intro h
   have h2 : 0 < b.hi := by omega
   have k1 := le_qf.1 h |>.1 g1.1.1.1
   have k2 := le_qf.1 h2 |>.1 g1.1.1.2
   have m1 := qc_le.1 h |>.1 g2.1.2
   have m2 := qc_le.1 h2 |>.1 g2.2
   have e1 := lin_le y1 y2 k1 k2
   have e2 := lin_ge y1 y2 m1 m2
   omega
 · intro h
   have h2 : b.lo < 0 := by omega
   have k1 := le_qf.2 h2 |>.1 g1.1.2
   have k2 := le_qf.2 h |>.1 g1.2
   have m1 := qc_le.2 h2 |>.1 g2.1.1.1
   have m2 := qc_le.2 h |>.1 g2.1.1.2
   have e1 := lin_ge y1 y2 k1 k2
   have e2 := lin_le y1 y2 m1 m2
   omega
theorem quot_in {a b : Iv} (h : (quotI a b).bad = false) {x y : Int} (x1 : a.lo ≤ x) (x2 : x ≤ a.hi) (y1 : b.lo ≤ y) (y2 : y ≤ b.hi) :
 (0 < y → (quotI a b).lo * y ≤ x * 1073741824 ∧ x * 1073741824 ≤ (quotI a b).hi * y) ∧ (y < 0 → (quotI a b).hi * y ≤ x * 1073741824 ∧ x * 1073741824 ≤ (quotI a b).lo * y) := by
 obtain ⟨fa, fb, hs, _, e⟩ := quot_good h
 have k := ends_in fa fb (Int.le_refl _) (Int.le_refl _) x1 x2 y1 y2
 rw [e]
 simp only
 exact ⟨fun hy => k.1 (by omega), fun hy => k.2 (by omega)⟩
theorem sq_bound {l m x : Int} (h : x ≤ m) (h2 : -m ≤ x) (h0 : 0 ≤ l) (h3 : l ≤ x ∨ x ≤ -l) : l * l ≤ x * x ∧ x * x ≤ m * m := by
 constructor
 · rcases h3 with h3 | h3
   · exact sq_le h0 h3
   · have := sq_le h0 (show l ≤ -x by omega)
     rw [Int.neg_mul_neg] at this; exact this
 · rcases Int.le_total 0 x with h4 | h4
   · exact sq_le h4 h
   · have := sq_le (show 0 ≤ -x by omega) (show -x ≤ m by omega)
     rw [Int.neg_mul_neg] at this; exact this
theorem least_spec {a : Iv} (_ : fine a = true) : 0 ≤ least a ∧ (∀ x, a.lo ≤ x → x ≤ a.hi → least a ≤ x ∨ x ≤ -least a) ∧ (∃ x, a.lo ≤ x ∧ x ≤ a.hi ∧ x * x = least a * least a) := by
 have ra := fine_iff.1 ‹_›
 unfold least mx
 refine ⟨?_, fun x h1 h2 => ?_, ?_⟩
 · repeat' split
   all_goals omega
 · repeat' split
   all_goals omega
 by_cases h : 0 < a.lo
 · refine ⟨a.lo, by omega, by omega, ?_⟩
   rw [if_neg (by split <;> omega), if_neg (by omega)]
 · by_cases h2 : a.hi < 0
   · refine ⟨a.hi, by omega, by omega, ?_⟩
     rw [if_pos (by omega : -a.hi > a.lo), if_neg (by omega), Int.neg_mul_neg]
   · refine ⟨0, by omega, by omega, ?_⟩
     have : (if 0 > (if -a.hi > a.lo then -a.hi else a.lo) then 0 else if -a.hi > a.lo then -a.hi else a.lo) = 0 := by
      repeat' split
      all_goals omega
     rw [this]
theorem most_spec {a : Iv} (_ : fine a = true) : 0 ≤ most a ∧ most a ≤ 1152921504606846976 ∧ (∀ x, a.lo ≤ x → x ≤ a.hi → x ≤ most a ∧ -most a ≤ x) ∧ (∃ x, a.lo ≤ x ∧ x ≤ a.hi ∧ x * x = most a * most a) := by
 have ra := fine_iff.1 ‹_›
 unfold most mx
 refine ⟨by split <;> omega, by split <;> omega, fun x h1 h2 => by split <;> omega, ?_⟩
 split
 · exact ⟨a.lo, by omega, by omega, by rw [Int.neg_mul_neg]⟩
 · exact ⟨a.hi, by omega, by omega, rfl⟩
theorem sqr_in {a : Iv} (fa : fine a = true) {x : Int} (x1 : a.lo ≤ x) (x2 : x ≤ a.hi) : least a * least a ≤ x * x ∧ x * x ≤ most a * most a := by
 have h1 := least_spec fa
 have h2 := most_spec fa
 exact sq_bound (h2.2.2.1 x x1 x2).1 (h2.2.2.1 x x1 x2).2 h1.1 (h1.2.1 x x1 x2)
theorem sqr_le {a : Iv} (fa : fine a = true) : least a * least a ≤ most a * most a := by
 have ra := fine_iff.1 fa
 have := sqr_in fa (Int.le_refl a.lo) (by omega)
 omega
theorem square_good {a : Iv} (h : (squareI a).bad = false) : fine a = true ∧ fine (squareI a) = true ∧ squareI a = ⟨fq (least a * least a) 1073741824, cq (most a * most a) 1073741824, false⟩ := by
 unfold squareI at *
 cases hc : fineL [a] with
 | false => rw [hc] at h; cases h
 | true =>
  rw [hc] at h
  obtain ⟨h1, h2⟩ := told_good h
  rw [fine1] at hc
  exact ⟨hc, by rw [cond_true, h2]; exact h1, h2⟩
theorem square_mk {a : Iv} (fa : fine a = true) (h : most a * most a ≤ 1152921504606846976 * 1073741824) : squareI a = ⟨fq (least a * least a) 1073741824, cq (most a * most a) 1073741824, false⟩ ∧ fine (squareI a) = true := by
 have h0 := sqr_le fa
 have hl := mul_self_nonneg' (least a)
 have g1 : 0 ≤ fq (least a * least a) 1073741824 := (le_fq (by decide)).2 (by omega)
 have g2 : cq (most a * most a) 1073741824 ≤ 1152921504606846976 := (cq_le (by decide)).2 h
 have g3 : fq (least a * least a) 1073741824 ≤ cq (most a * most a) 1073741824 := by
  have e1 := (le_fq (p := least a * least a) (k := fq (least a * least a) 1073741824) (show (0 : Int) < 1073741824 by decide)).1 (Int.le_refl _)
  have e2 := (cq_le (p := most a * most a) (k := cq (most a * most a) 1073741824) (show (0 : Int) < 1073741824 by decide)).1 (Int.le_refl _)
  omega
 have hf : fine ⟨fq (least a * least a) 1073741824, cq (most a * most a) 1073741824, false⟩ = true := fine_iff.2 ⟨rfl, by simp only; omega, g3, g2⟩
 have e : squareI a = ⟨fq (least a * least a) 1073741824, cq (most a * most a) 1073741824, false⟩ := by
  unfold squareI; rw [fine1, fa]; exact told_ok hf
 rw [e]; exact ⟨rfl, hf⟩
theorem ones_in {x : Int} (h0 : 0 ≤ x) (h1 : x ≤ 1152921504606846976) : 0 ≤ x * 1073741824 ∧ x * 1073741824 < HH := by
 simp only [HH]; omega
theorem rc_top {x : Int} (h0 : 0 ≤ x) (h1 : x ≤ 1152921504606846976) : rc (x * 1073741824) ≤ 35184372088832 := by
 have h := ones_in h0 h1
 exact (rc_is h.1 h.2).2.2 _ (by decide) (by omega)
theorem rt_rc {x y : Int} (h0 : 0 ≤ x) (h1 : x ≤ y) (h2 : y < HH) : rt x ≤ rc y := by
 have hx := rt_is h0 (by omega)
 have hy := rc_is (show 0 ≤ y by omega) h2
 rcases Int.lt_or_le (rc y) (rt x) with h | h
 · have := sq_lt hy.1 h
   have := hx.2.1
   omega
 · exact h
theorem root_good {a : Iv} (h : (rootI a).bad = false) : fine a = true ∧ 0 ≤ a.lo ∧ fine (rootI a) = true ∧ rootI a = ⟨rt (a.lo * 1073741824), rc (a.hi * 1073741824), false⟩ := by
 unfold rootI at *
 cases hc : (fineL [a] && decide (0 ≤ a.lo)) with
 | false => rw [hc] at h; cases h
 | true =>
  rw [hc] at h
  obtain ⟨h1, h2⟩ := told_good h
  simp only [Bool.and_eq_true, decide_eq_true_eq] at hc
  rw [fine1] at hc
  exact ⟨hc.1, hc.2, by rw [cond_true, h2]; exact h1, h2⟩
theorem root_mk {a : Iv} (fa : fine a = true) (h0 : 0 ≤ a.lo) : rootI a = ⟨rt (a.lo * 1073741824), rc (a.hi * 1073741824), false⟩ ∧ fine (rootI a) = true := by
 have ra := fine_iff.1 fa
 have i1 := ones_in h0 (by omega)
 have i2 := ones_in (x := a.hi) (by omega) (by omega)
 have hf : fine ⟨rt (a.lo * 1073741824), rc (a.hi * 1073741824), false⟩ = true := by
  refine fine_iff.2 ⟨rfl, ?_, rt_rc i1.1 (by omega) i2.2, ?_⟩
  · have := (rt_is i1.1 i1.2).1; simp only; omega
  · have := rc_top (x := a.hi) (by omega) (by omega); simp only; omega
 have e : rootI a = ⟨rt (a.lo * 1073741824), rc (a.hi * 1073741824), false⟩ := by
  unfold rootI
  rw [fine1, fa, decide_eq_true h0]
  exact told_ok hf
 rw [e]; exact ⟨rfl, hf⟩
theorem root_in {a : Iv} (h : (rootI a).bad = false) {x : Int} (x1 : a.lo ≤ x) (x2 : x ≤ a.hi) : 0 ≤ (rootI a).lo ∧ 0 ≤ (rootI a).hi ∧ (rootI a).lo * (rootI a).lo ≤ x * 1073741824 ∧ x * 1073741824 ≤ (rootI a).hi * (rootI a).hi := by
 obtain ⟨fa, h0, _, e⟩ := root_good h
 have ra := fine_iff.1 fa
 have i1 := ones_in h0 (by omega)
 have i2 := ones_in (x := a.hi) (by omega) (by omega)
 have hl := rt_is i1.1 i1.2
 have hu := rc_is i2.1 i2.2
 rw [e]
 simp only
 exact ⟨hl.1, hu.1, by have := hl.2.1; omega, by have := hu.2.1; omega⟩
theorem one_eq : ofI 1 = ⟨1073741824, 1073741824, false⟩ := by decide
end Go.Nv
