/-
  Roots of whole numbers: plain.
-/
import Derived.Test.YthadbpnapbmppaaGreatDoorQtb
import Derived.Test.YthadbpnapbmppaaGreatDoorIva
set_option maxRecDepth 100000
namespace Go.Rt
open Go Go.RowKit Go.Sx Go.Nm Go.Wd Go.Qt

/-- Bit by bit, from bit n - 1 on. -/
def rtB : Nat → Int → Int → Int
  | 0, _, r => r
  | i + 1, a, r => bif decide ((r + 2 ^ i) * (r + 2 ^ i) ≤ a) then rtB i a (r + 2 ^ i) else rtB i a r
def rt (a : Int) : Int := rtB 128 a 0
def IsRt (a r : Int) : Prop := 0 ≤ r ∧ r * r ≤ a ∧ a < (r + 1) * (r + 1)
theorem sq_lt {x y : Int} (h0 : 0 ≤ x) (h : x < y) : x * x < y * y := by
  have h1 := Int.mul_le_mul_of_nonneg_left (Int.le_of_lt h) h0
  have h2 := Int.mul_lt_mul_of_pos_right h (show 0 < y by omega)
  omega
theorem sq_le {x y : Int} (h0 : 0 ≤ x) (h : x ≤ y) : x * x ≤ y * y := by
  rcases Int.lt_or_eq_of_le h with h | h
  · exact Int.le_of_lt (sq_lt h0 h)
  · rw [h]; exact Int.le_refl _
theorem mul_self_nonneg' (x : Int) : 0 ≤ x * x := by
  rcases Int.le_total 0 x with h | h
  · exact Int.mul_nonneg h h
  · have := Int.mul_nonneg (show 0 ≤ -x by omega) (show 0 ≤ -x by omega)
    rw [Int.neg_mul_neg] at this; exact this
theorem IsRt.unique {a r s : Int} (h : IsRt a r) (k : IsRt a s) : r = s := by
  obtain ⟨h0, h1, h2⟩ := h
  obtain ⟨k0, k1, k2⟩ := k
  rcases Int.lt_trichotomy r s with c | c | c
  · have := sq_le (show 0 ≤ r + 1 by omega) (show r + 1 ≤ s by omega); omega
  · exact c
  · have := sq_le (show 0 ≤ s + 1 by omega) (show s + 1 ≤ r by omega); omega
theorem p2_succ (i : Nat) : (2 : Int) ^ (i + 1) = 2 ^ i + 2 ^ i := by rw [Int.pow_succ]; omega
theorem rtB_is {a : Int} : ∀ {i : Nat} {r : Int}, 0 ≤ r → r * r ≤ a → a < (r + 2 ^ i) * (r + 2 ^ i) → IsRt a (rtB i a r)
  | 0, r, h0, h1, h2 => ⟨h0, h1, by show a < (r + 1) * (r + 1); rw [Int.pow_zero] at h2; exact h2⟩
  | i + 1, r, h0, h1, h2 => by
    have hp := pow2_pos i
    unfold rtB
    by_cases h : (r + 2 ^ i) * (r + 2 ^ i) ≤ a
    · rw [decide_eq_true h]
      refine rtB_is (by omega) h ?_
      rw [p2_succ, ← Int.add_assoc] at h2
      exact h2
    · rw [decide_eq_false h]
      exact rtB_is h0 h1 (by omega)
theorem rt_is {a : Int} (h0 : 0 ≤ a) (h1 : a < HH) : IsRt a (rt a) := by
  refine rtB_is (Int.le_refl _) (by simpa using h0) ?_
  have : ((0 : Int) + 2 ^ 128) * (0 + 2 ^ 128) = 2 * HH := by decide
  rw [this]
  have : (0 : Int) < HH := by decide
  omega
theorem rt_range {a : Int} (h0 : 0 ≤ a) (h1 : a < HH) : 0 ≤ rt a ∧ rt a < 2 ^ 128 := by
  have h := rt_is h0 h1
  refine ⟨h.1, ?_⟩
  rcases Int.lt_or_le (rt a) (2 ^ 128) with c | c
  · exact c
  · exfalso
    have := sq_le (show (0 : Int) ≤ 2 ^ 128 by decide) c
    have e : (2 : Int) ^ 128 * 2 ^ 128 = 2 * HH := by decide
    have := h.2.1
    have : (0 : Int) < HH := by decide
    omega
/-- The upper root. -/
def rc (a : Int) : Int := if rt a * rt a = a then rt a else rt a + 1
theorem rc_is {a : Int} (h0 : 0 ≤ a) (h1 : a < HH) : 0 ≤ rc a ∧ a ≤ rc a * rc a ∧ ∀ k, 0 ≤ k → a ≤ k * k → rc a ≤ k := by
  obtain ⟨g0, g1, g2⟩ := rt_is h0 h1
  unfold rc
  by_cases h : rt a * rt a = a
  · rw [if_pos h]
    refine ⟨g0, by omega, fun k hk h2 => ?_⟩
    rcases Int.lt_or_le k (rt a) with c | c
    · have := sq_lt hk c; omega
    · exact c
  · rw [if_neg h]
    refine ⟨by omega, by omega, fun k hk h2 => ?_⟩
    rcases Int.lt_or_le k (rt a + 1) with c | c
    · have := sq_le hk (show k ≤ rt a by omega); omega
    · exact c
end Go.Rt

/-
  Quotients, squares, roots, cubes of intervals: what the documents say of them, and plain laws, with no program in sight.
-/
namespace Go.Nv
open Go Go.RowKit Go.Sx Go.Nm Go.Wd Go.Qt Go.Iv Go.Rt

def qf (x y : Int) : Int := fq (x * 1073741824) y
def qc (x y : Int) : Int := cq (x * 1073741824) y
def loQ (a b : Iv) : Int := mn (mn (mn (qf a.lo b.lo) (qf a.lo b.hi)) (qf a.hi b.lo)) (qf a.hi b.hi)
def hiQ (a b : Iv) : Int := mx (mx (mx (qc a.lo b.lo) (qc a.lo b.hi)) (qc a.hi b.lo)) (qc a.hi b.hi)
def quotI (a b : Iv) : Iv := bif fineL [a, b] && (decide (b.lo > 0) || decide (b.hi < 0)) then told ⟨loQ a b, hiQ a b, false⟩ else bd
def inverseI (a : Iv) : Iv := quotI (ofI 1) a
def least (a : Iv) : Int := mx (mx a.lo (-a.hi)) 0
def most (a : Iv) : Int := mx a.hi (-a.lo)
def squareI (a : Iv) : Iv := bif fineL [a] then told ⟨fq (least a * least a) 1073741824, cq (most a * most a) 1073741824, false⟩ else bd
def rootI (a : Iv) : Iv := bif fineL [a] && decide (0 ≤ a.lo) then told ⟨rt (a.lo * 1073741824), rc (a.hi * 1073741824), false⟩ else bd
def signN (a : Iv) : Int := bif fineL [a] then (if a.lo > 0 then 1 else if a.hi < 0 then -1 else 0) else 0
def signB (a : Iv) : Bool := fineL [a] && (decide (a.lo > 0) || (decide (a.hi < 0) || decide (a.hi = a.lo)))
def cubeI (a : Iv) : Iv := bif fineL [a] && decide (a.lo > 0) then inverseI (mulI a (rootI a)) else bd

/-! ### Quotients -/
theorem le_qf {k x y : Int} : (0 < y → (k ≤ qf x y ↔ k * y ≤ x * 1073741824)) ∧ (y < 0 → (k ≤ qf x y ↔ x * 1073741824 ≤ k * y)) := by
  refine ⟨fun h => le_fq h, fun h => ?_⟩
  unfold qf
  rw [(fq_flip h).1, le_fq (by omega), Int.mul_neg]
  omega
theorem qc_le {k x y : Int} : (0 < y → (qc x y ≤ k ↔ x * 1073741824 ≤ k * y)) ∧ (y < 0 → (qc x y ≤ k ↔ k * y ≤ x * 1073741824)) := by
  refine ⟨fun h => cq_le h, fun h => ?_⟩
  unfold qc
  rw [(fq_flip h).2, cq_le (by omega), Int.mul_neg]
  omega
theorem loQ_ge {a b : Iv} {k : Int} : k ≤ loQ a b ↔ ((k ≤ qf a.lo b.lo ∧ k ≤ qf a.lo b.hi) ∧ k ≤ qf a.hi b.lo) ∧ k ≤ qf a.hi b.hi := by
  unfold loQ; rw [mn_ge, mn_ge, mn_ge]
theorem hiQ_le {a b : Iv} {k : Int} : hiQ a b ≤ k ↔ ((qc a.lo b.lo ≤ k ∧ qc a.lo b.hi ≤ k) ∧ qc a.hi b.lo ≤ k) ∧ qc a.hi b.hi ≤ k := by
  unfold hiQ; rw [mx_le, mx_le, mx_le]
theorem lo_hi (a b : Iv) : loQ a b ≤ hiQ a b := by
  have h1 := (loQ_ge (a := a) (b := b)).1 (Int.le_refl _)
  have h2 := (hiQ_le (a := a) (b := b)).1 (Int.le_refl _)
  have h3 : qf a.lo b.lo ≤ qc a.lo b.lo := fq_le_cq _ _
  omega
theorem quot_good {a b : Iv} (h : (quotI a b).bad = false) : fine a = true ∧ fine b = true ∧ (0 < b.lo ∨ b.hi < 0) ∧ fine (quotI a b) = true ∧ quotI a b = ⟨loQ a b, hiQ a b, false⟩ := by
  unfold quotI at *
  cases hc : (fineL [a, b] && (decide (b.lo > 0) || decide (b.hi < 0))) with
  | false => rw [hc] at h; cases h
  | true =>
    rw [hc] at h
    obtain ⟨h1, h2⟩ := told_good h
    simp only [Bool.and_eq_true, Bool.or_eq_true, decide_eq_true_eq] at hc
    obtain ⟨fa, fb⟩ := fine2.1 hc.1
    simp only [cond_true]
    exact ⟨fa, fb, hc.2, by rw [h2]; exact h1, h2⟩
theorem quot_mk {a b : Iv} (fa : fine a = true) (fb : fine b = true) (hs : 0 < b.lo ∨ b.hi < 0) (h1 : -1152921504606846976 ≤ loQ a b) (h2 : hiQ a b ≤ 1152921504606846976) : quotI a b = ⟨loQ a b, hiQ a b, false⟩ ∧ fine (quotI a b) = true := by
  have hf : fine ⟨loQ a b, hiQ a b, false⟩ = true := fine_iff.2 ⟨rfl, h1, lo_hi a b, h2⟩
  have e : quotI a b = ⟨loQ a b, hiQ a b, false⟩ := by
    unfold quotI
    have : (decide (b.lo > 0) || decide (b.hi < 0)) = true := by simp only [Bool.or_eq_true, decide_eq_true_eq]; exact hs
    rw [fine2.2 ⟨fa, fb⟩, this]
    exact told_ok hf
  rw [e]; exact ⟨rfl, hf⟩
theorem quot_bad {a b : Iv} (h : (quotI a b).bad = true) : quotI a b = bd := by
  unfold quotI at *
  cases hc : (fineL [a, b] && (decide (b.lo > 0) || decide (b.hi < 0))) with
  | false => rfl
  | true =>
    rw [hc] at h
    simp only [cond_true] at *
    cases hf : fine ⟨loQ a b, hiQ a b, false⟩ with
    | true => rw [told_ok hf] at h; cases h
    | false => exact told_no hf
/-- Quotients of numbers of both lie between the corners. -/
theorem ends_in {a b : Iv} (fa : fine a = true) (fb : fine b = true) {x y l u : Int} (hl : l ≤ loQ a b) (hu : hiQ a b ≤ u) (x1 : a.lo ≤ x) (x2 : x ≤ a.hi) (y1 : b.lo ≤ y) (y2 : y ≤ b.hi) :
    (0 < b.lo → l * y ≤ x * 1073741824 ∧ x * 1073741824 ≤ u * y) ∧ (b.hi < 0 → u * y ≤ x * 1073741824 ∧ x * 1073741824 ≤ l * y) := by
  have ra := fine_iff.1 fa
  have rb := fine_iff.1 fb
  have g1 := (loQ_ge (a := a) (b := b)).1 hl
  have g2 := (hiQ_le (a := a) (b := b)).1 hu
  constructor
  · intro h
    have h2 : 0 < b.hi := by omega
    have k1 := le_qf.1 h |>.1 g1.1.1.1
    have k2 := le_qf.1 h2 |>.1 g1.1.1.2
    have m1 := qc_le.1 h |>.1 g2.1.2
    have m2 := qc_le.1 h2 |>.1 g2.2
    have e1 := lin_le y1 y2 k1 k2
    have e2 := lin_ge y1 y2 m1 m2
    omega
  · intro h
    have h2 : b.lo < 0 := by omega
    have k1 := le_qf.2 h2 |>.1 g1.1.2
    have k2 := le_qf.2 h |>.1 g1.2
    have m1 := qc_le.2 h2 |>.1 g2.1.1.1
    have m2 := qc_le.2 h |>.1 g2.1.1.2
    have e1 := lin_ge y1 y2 k1 k2
    have e2 := lin_le y1 y2 m1 m2
    omega
theorem quot_in {a b : Iv} (h : (quotI a b).bad = false) {x y : Int} (x1 : a.lo ≤ x) (x2 : x ≤ a.hi) (y1 : b.lo ≤ y) (y2 : y ≤ b.hi) :
    (0 < y → (quotI a b).lo * y ≤ x * 1073741824 ∧ x * 1073741824 ≤ (quotI a b).hi * y) ∧ (y < 0 → (quotI a b).hi * y ≤ x * 1073741824 ∧ x * 1073741824 ≤ (quotI a b).lo * y) := by
  obtain ⟨fa, fb, hs, _, e⟩ := quot_good h
  have k := ends_in fa fb (Int.le_refl _) (Int.le_refl _) x1 x2 y1 y2
  rw [e]
  simp only
  exact ⟨fun hy => k.1 (by omega), fun hy => k.2 (by omega)⟩
theorem quot_mono {a b p q : Iv} (h : (quotI a b).bad = false) (fp : fine p = true) (fq' : fine q = true) (p1 : a.lo ≤ p.lo) (p2 : p.hi ≤ a.hi) (q1 : b.lo ≤ q.lo) (q2 : q.hi ≤ b.hi) : holdsI (quotI a b) (quotI p q) = true := by
  obtain ⟨fa, fb, hs, ff, e⟩ := quot_good h
  have rp := fine_iff.1 fp
  have rq := fine_iff.1 fq'
  have rr := fine_iff.1 ff
  rw [e] at rr
  simp only at rr
  have k := fun (x y : Int) (x1 : a.lo ≤ x) (x2 : x ≤ a.hi) (y1 : b.lo ≤ y) (y2 : y ≤ b.hi) => ends_in fa fb (Int.le_refl _) (Int.le_refl _) x1 x2 y1 y2
  have key : ∀ x y, p.lo ≤ x → x ≤ p.hi → q.lo ≤ y → y ≤ q.hi → loQ a b ≤ qf x y ∧ qc x y ≤ hiQ a b := by
    intro x y x1 x2 y1 y2
    have hk := k x y (by omega) (by omega) (by omega) (by omega)
    rcases hs with hs | hs
    · have := hk.1 hs
      exact ⟨(le_qf.1 (by omega)).2 this.1, (qc_le.1 (by omega)).2 this.2⟩
    · have := hk.2 hs
      exact ⟨(le_qf.2 (by omega)).2 this.2, (qc_le.2 (by omega)).2 this.1⟩
  have c1 := key p.lo q.lo (by omega) (by omega) (by omega) (by omega)
  have c2 := key p.lo q.hi (by omega) (by omega) (by omega) (by omega)
  have c3 := key p.hi q.lo (by omega) (by omega) (by omega) (by omega)
  have c4 := key p.hi q.hi (by omega) (by omega) (by omega) (by omega)
  have hl : loQ a b ≤ loQ p q := loQ_ge.2 ⟨⟨⟨c1.1, c2.1⟩, c3.1⟩, c4.1⟩
  have hu : hiQ p q ≤ hiQ a b := hiQ_le.2 ⟨⟨⟨c1.2, c2.2⟩, c3.2⟩, c4.2⟩
  have hm := quot_mk fp fq' (by omega) (by omega) (by omega)
  refine holds_mk ff hm.2 ?_ ?_
  · rw [e, hm.1]; exact hl
  · rw [e, hm.1]; exact hu

/-! ### Squares -/
theorem sq_bound {l m x : Int} (h : x ≤ m) (h2 : -m ≤ x) (h0 : 0 ≤ l) (h3 : l ≤ x ∨ x ≤ -l) : l * l ≤ x * x ∧ x * x ≤ m * m := by
  constructor
  · rcases h3 with h3 | h3
    · exact sq_le h0 h3
    · have := sq_le h0 (show l ≤ -x by omega)
      rw [Int.neg_mul_neg] at this; exact this
  · rcases Int.le_total 0 x with h4 | h4
    · exact sq_le h4 h
    · have := sq_le (show 0 ≤ -x by omega) (show -x ≤ m by omega)
      rw [Int.neg_mul_neg] at this; exact this
theorem least_spec {a : Iv} (_ : fine a = true) : 0 ≤ least a ∧ (∀ x, a.lo ≤ x → x ≤ a.hi → least a ≤ x ∨ x ≤ -least a) ∧ (∃ x, a.lo ≤ x ∧ x ≤ a.hi ∧ x * x = least a * least a) := by
  have ra := fine_iff.1 ‹_›
  unfold least mx
  refine ⟨by repeat' split
             all_goals omega, fun x h1 h2 => by repeat' split
                                                all_goals omega, ?_⟩
  by_cases h : 0 < a.lo
  · refine ⟨a.lo, by omega, by omega, ?_⟩
    rw [if_neg (by split <;> omega), if_neg (by omega)]
  · by_cases h2 : a.hi < 0
    · refine ⟨a.hi, by omega, by omega, ?_⟩
      rw [if_pos (by omega : -a.hi > a.lo), if_neg (by omega), Int.neg_mul_neg]
    · refine ⟨0, by omega, by omega, ?_⟩
      have : (if 0 > (if -a.hi > a.lo then -a.hi else a.lo) then 0 else if -a.hi > a.lo then -a.hi else a.lo) = 0 := by
        repeat' split
        all_goals omega
      rw [this]
theorem most_spec {a : Iv} (_ : fine a = true) : 0 ≤ most a ∧ most a ≤ 1152921504606846976 ∧ (∀ x, a.lo ≤ x → x ≤ a.hi → x ≤ most a ∧ -most a ≤ x) ∧ (∃ x, a.lo ≤ x ∧ x ≤ a.hi ∧ x * x = most a * most a) := by
  have ra := fine_iff.1 ‹_›
  unfold most mx
  refine ⟨by split <;> omega, by split <;> omega, fun x h1 h2 => by split <;> omega, ?_⟩
  split
  · exact ⟨a.lo, by omega, by omega, by rw [Int.neg_mul_neg]⟩
  · exact ⟨a.hi, by omega, by omega, rfl⟩
theorem sqr_in {a : Iv} (fa : fine a = true) {x : Int} (x1 : a.lo ≤ x) (x2 : x ≤ a.hi) : least a * least a ≤ x * x ∧ x * x ≤ most a * most a := by
  have h1 := least_spec fa
  have h2 := most_spec fa
  exact sq_bound (h2.2.2.1 x x1 x2).1 (h2.2.2.1 x x1 x2).2 h1.1 (h1.2.1 x x1 x2)
theorem sqr_le {a : Iv} (fa : fine a = true) : least a * least a ≤ most a * most a := by
  have ra := fine_iff.1 fa
  have := sqr_in fa (Int.le_refl a.lo) (by omega)
  omega
theorem square_good {a : Iv} (h : (squareI a).bad = false) : fine a = true ∧ fine (squareI a) = true ∧ squareI a = ⟨fq (least a * least a) 1073741824, cq (most a * most a) 1073741824, false⟩ := by
  unfold squareI at *
  cases hc : fineL [a] with
  | false => rw [hc] at h; cases h
  | true =>
    rw [hc] at h
    obtain ⟨h1, h2⟩ := told_good h
    rw [fine1] at hc
    exact ⟨hc, by rw [cond_true, h2]; exact h1, h2⟩
theorem square_mk {a : Iv} (fa : fine a = true) (h : most a * most a ≤ 1152921504606846976 * 1073741824) : squareI a = ⟨fq (least a * least a) 1073741824, cq (most a * most a) 1073741824, false⟩ ∧ fine (squareI a) = true := by
  have h0 := sqr_le fa
  have hl := mul_self_nonneg' (least a)
  have g1 : 0 ≤ fq (least a * least a) 1073741824 := (le_fq (by decide)).2 (by omega)
  have g2 : cq (most a * most a) 1073741824 ≤ 1152921504606846976 := (cq_le (by decide)).2 h
  have g3 : fq (least a * least a) 1073741824 ≤ cq (most a * most a) 1073741824 := by
    have e1 := (le_fq (p := least a * least a) (k := fq (least a * least a) 1073741824) (show (0 : Int) < 1073741824 by decide)).1 (Int.le_refl _)
    have e2 := (cq_le (p := most a * most a) (k := cq (most a * most a) 1073741824) (show (0 : Int) < 1073741824 by decide)).1 (Int.le_refl _)
    omega
  have hf : fine ⟨fq (least a * least a) 1073741824, cq (most a * most a) 1073741824, false⟩ = true := fine_iff.2 ⟨rfl, by simp only; omega, g3, g2⟩
  have e : squareI a = ⟨fq (least a * least a) 1073741824, cq (most a * most a) 1073741824, false⟩ := by
    unfold squareI; rw [fine1, fa]; exact told_ok hf
  rw [e]; exact ⟨rfl, hf⟩
theorem square_in {a : Iv} (h : (squareI a).bad = false) {x : Int} (x1 : a.lo ≤ x) (x2 : x ≤ a.hi) : 0 ≤ (squareI a).lo ∧ (squareI a).lo * 1073741824 ≤ x * x ∧ x * x ≤ (squareI a).hi * 1073741824 := by
  obtain ⟨fa, _, e⟩ := square_good h
  have hx := sqr_in fa x1 x2
  have hl := mul_self_nonneg' (least a)
  rw [e]
  simp only
  have e1 := (le_fq (p := least a * least a) (k := fq (least a * least a) 1073741824) (show (0 : Int) < 1073741824 by decide)).1 (Int.le_refl _)
  have e2 := (cq_le (p := most a * most a) (k := cq (most a * most a) 1073741824) (show (0 : Int) < 1073741824 by decide)).1 (Int.le_refl _)
  exact ⟨(le_fq (by decide)).2 (by omega), by omega, by omega⟩
theorem square_fits {a : Iv} (fa : fine a = true) (h1 : -17592186044416 ≤ a.lo) (h2 : a.hi ≤ 17592186044416) : (squareI a).bad = false := by
  have m := most_spec fa
  obtain ⟨x, x1, x2, e⟩ := m.2.2.2
  have hx : x * x ≤ 17592186044416 * 17592186044416 := (sq_bound (l := 0) (show x ≤ 17592186044416 by omega) (by omega) (Int.le_refl _) (by omega)).2
  have := square_mk fa (by omega)
  rw [this.1]
theorem square_mono {a p : Iv} (h : (squareI a).bad = false) (fp : fine p = true) (p1 : a.lo ≤ p.lo) (p2 : p.hi ≤ a.hi) : holdsI (squareI a) (squareI p) = true := by
  obtain ⟨fa, ff, e⟩ := square_good h
  have rr := fine_iff.1 ff
  rw [e] at rr
  obtain ⟨_, r1, r2, r3⟩ := rr
  obtain ⟨x, x1, x2, hx⟩ := (least_spec fp).2.2
  obtain ⟨y, y1, y2, hy⟩ := (most_spec fp).2.2.2
  have hx' := sqr_in fa (x := x) (by omega) (by omega)
  have hy' := sqr_in fa (x := y) (by omega) (by omega)
  have r3' : cq (most a * most a) 1073741824 ≤ 1152921504606846976 := r3
  have e2 := (cq_le (p := most a * most a) (k := 1152921504606846976) (show (0 : Int) < 1073741824 by decide)).1 r3'
  have hm := square_mk fp (by omega)
  have e1 := (le_fq (p := least a * least a) (k := fq (least a * least a) 1073741824) (show (0 : Int) < 1073741824 by decide)).1 (Int.le_refl _)
  have e3 := (cq_le (p := most a * most a) (k := cq (most a * most a) 1073741824) (show (0 : Int) < 1073741824 by decide)).1 (Int.le_refl _)
  refine holds_mk ff hm.2 ?_ ?_
  · rw [e, hm.1]
    show fq (least a * least a) 1073741824 ≤ fq (least p * least p) 1073741824
    exact (le_fq (show (0 : Int) < 1073741824 by decide)).2 (by omega)
  · rw [e, hm.1]
    show cq (most p * most p) 1073741824 ≤ cq (most a * most a) 1073741824
    exact (cq_le (show (0 : Int) < 1073741824 by decide)).2 (by omega)

/-! ### Roots -/
theorem ones_in {x : Int} (h0 : 0 ≤ x) (h1 : x ≤ 1152921504606846976) : 0 ≤ x * 1073741824 ∧ x * 1073741824 < HH := by
  simp only [HH]; omega
theorem rc_top {x : Int} (h0 : 0 ≤ x) (h1 : x ≤ 1152921504606846976) : rc (x * 1073741824) ≤ 35184372088832 := by
  have h := ones_in h0 h1
  exact (rc_is h.1 h.2).2.2 _ (by decide) (by omega)
theorem rt_rc {x y : Int} (h0 : 0 ≤ x) (h1 : x ≤ y) (h2 : y < HH) : rt x ≤ rc y := by
  have hx := rt_is h0 (by omega)
  have hy := rc_is (show 0 ≤ y by omega) h2
  rcases Int.lt_or_le (rc y) (rt x) with h | h
  · have := sq_lt hy.1 h
    have := hx.2.1
    omega
  · exact h
theorem rt_le {x y : Int} (h0 : 0 ≤ x) (h1 : x ≤ y) (h2 : y < HH) : rt x ≤ rt y := by
  have hx := rt_is h0 (by omega)
  have hy := rt_is (show 0 ≤ y by omega) h2
  rcases Int.lt_or_le (rt y) (rt x) with h | h
  · have := sq_le (show 0 ≤ rt y + 1 by have := hy.1; omega) (show rt y + 1 ≤ rt x by omega)
    have := hx.2.1
    have := hy.2.2
    omega
  · exact h
theorem rc_le {x y : Int} (h0 : 0 ≤ x) (h1 : x ≤ y) (h2 : y < HH) : rc x ≤ rc y := by
  have hy := rc_is (show 0 ≤ y by omega) h2
  exact (rc_is h0 (by omega)).2.2 _ hy.1 (by omega)
theorem root_good {a : Iv} (h : (rootI a).bad = false) : fine a = true ∧ 0 ≤ a.lo ∧ fine (rootI a) = true ∧ rootI a = ⟨rt (a.lo * 1073741824), rc (a.hi * 1073741824), false⟩ := by
  unfold rootI at *
  cases hc : (fineL [a] && decide (0 ≤ a.lo)) with
  | false => rw [hc] at h; cases h
  | true =>
    rw [hc] at h
    obtain ⟨h1, h2⟩ := told_good h
    simp only [Bool.and_eq_true, decide_eq_true_eq] at hc
    rw [fine1] at hc
    exact ⟨hc.1, hc.2, by rw [cond_true, h2]; exact h1, h2⟩
theorem root_mk {a : Iv} (fa : fine a = true) (h0 : 0 ≤ a.lo) : rootI a = ⟨rt (a.lo * 1073741824), rc (a.hi * 1073741824), false⟩ ∧ fine (rootI a) = true := by
  have ra := fine_iff.1 fa
  have i1 := ones_in h0 (by omega)
  have i2 := ones_in (x := a.hi) (by omega) (by omega)
  have hf : fine ⟨rt (a.lo * 1073741824), rc (a.hi * 1073741824), false⟩ = true := by
    refine fine_iff.2 ⟨rfl, ?_, rt_rc i1.1 (by omega) i2.2, ?_⟩
    · have := (rt_is i1.1 i1.2).1; simp only; omega
    · have := rc_top (x := a.hi) (by omega) (by omega); simp only; omega
  have e : rootI a = ⟨rt (a.lo * 1073741824), rc (a.hi * 1073741824), false⟩ := by
    unfold rootI
    rw [fine1, fa, decide_eq_true h0]
    exact told_ok hf
  rw [e]; exact ⟨rfl, hf⟩
theorem root_bad {a : Iv} (fa : fine a = true) : (rootI a).bad = decide (a.lo < 0) := by
  by_cases h : a.lo < 0
  · unfold rootI
    rw [decide_eq_true h, decide_eq_false (by omega : ¬ 0 ≤ a.lo), Bool.and_false]
    rfl
  · rw [(root_mk fa (by omega)).1, decide_eq_false h]
theorem root_in {a : Iv} (h : (rootI a).bad = false) {x : Int} (x1 : a.lo ≤ x) (x2 : x ≤ a.hi) : 0 ≤ (rootI a).lo ∧ 0 ≤ (rootI a).hi ∧ (rootI a).lo * (rootI a).lo ≤ x * 1073741824 ∧ x * 1073741824 ≤ (rootI a).hi * (rootI a).hi := by
  obtain ⟨fa, h0, _, e⟩ := root_good h
  have ra := fine_iff.1 fa
  have i1 := ones_in h0 (by omega)
  have i2 := ones_in (x := a.hi) (by omega) (by omega)
  have hl := rt_is i1.1 i1.2
  have hu := rc_is i2.1 i2.2
  rw [e]
  simp only
  exact ⟨hl.1, hu.1, by have := hl.2.1; omega, by have := hu.2.1; omega⟩
theorem root_mono {a p : Iv} (h : (rootI a).bad = false) (fp : fine p = true) (p1 : a.lo ≤ p.lo) (p2 : p.hi ≤ a.hi) : holdsI (rootI a) (rootI p) = true := by
  obtain ⟨fa, h0, ff, e⟩ := root_good h
  have ra := fine_iff.1 fa
  have rp := fine_iff.1 fp
  have hm := root_mk fp (by omega)
  have i2 := ones_in (x := a.hi) (by omega) (by omega)
  have i3 := ones_in (x := p.lo) (by omega) (by omega)
  refine holds_mk ff hm.2 ?_ ?_
  · rw [e, hm.1]; exact rt_le (by omega) (by omega) i3.2
  · rw [e, hm.1]; exact rc_le (by omega) (by omega) i2.2

/-! ### Cubes -/
theorem one_eq : ofI 1 = ⟨1073741824, 1073741824, false⟩ := by decide
theorem inverse_in {a : Iv} (h : (inverseI a).bad = false) {y : Int} (y1 : a.lo ≤ y) (y2 : y ≤ a.hi) (h0 : 0 < y) :
    (inverseI a).lo * y ≤ 1073741824 * 1073741824 ∧ 1073741824 * 1073741824 ≤ (inverseI a).hi * y := by
  unfold inverseI at *
  have e := one_eq
  exact (quot_in h (x := 1073741824) (by rw [e]; exact Int.le_refl _) (by rw [e]; exact Int.le_refl _) y1 y2).1 h0
theorem cube_good {a : Iv} (h : (cubeI a).bad = false) : fine a = true ∧ 0 < a.lo ∧ (rootI a).bad = false ∧ (mulI a (rootI a)).bad = false ∧ (inverseI (mulI a (rootI a))).bad = false ∧ cubeI a = inverseI (mulI a (rootI a)) ∧ 0 < (mulI a (rootI a)).lo := by
  unfold cubeI at *
  cases hc : (fineL [a] && decide (a.lo > 0)) with
  | false => rw [hc] at h; cases h
  | true =>
    rw [hc] at h
    simp only [Bool.and_eq_true, decide_eq_true_eq] at hc
    rw [fine1] at hc
    have hi : (inverseI (mulI a (rootI a))).bad = false := h
    obtain ⟨_, f2, hs, _⟩ := quot_good hi
    have hm : (mulI a (rootI a)).bad = false := (fine_iff.1 f2).1
    obtain ⟨_, f4, _, mo⟩ := mul_good hm
    have hr := (fine_iff.1 f4).1
    refine ⟨hc.1, hc.2, hr, hm, hi, rfl, ?_⟩
    have g := root_in hr (Int.le_refl a.lo) (by have := fine_iff.1 hc.1; omega)
    rcases hs with hs | hs
    · exact hs
    · exfalso
      have hh := (mo.hi (mulI a (rootI a)).hi).1 (Int.le_refl _) _ (.inl rfl)
      have := Int.mul_nonneg (Int.le_of_lt hc.2) g.1
      omega
theorem cube_in {a : Iv} (h : (cubeI a).bad = false) {x : Int} (x1 : a.lo ≤ x) (x2 : x ≤ a.hi) :
    0 ≤ (cubeI a).lo ∧ (cubeI a).lo * (cubeI a).lo * (x * x * x) ≤ 1073741824 * 1073741824 * 1073741824 * 1073741824 * 1073741824 ∧
      1073741824 * 1073741824 * 1073741824 * 1073741824 * 1073741824 ≤ (cubeI a).hi * (cubeI a).hi * (x * x * x) := by
  obtain ⟨fa, h0, hr, hm, hi, e, hp⟩ := cube_good h
  obtain ⟨_, f4, _, mo⟩ := mul_good hm
  have ra := fine_iff.1 fa
  have rm := fine_iff.1 mo.ok
  have g := root_in hr x1 x2
  have gl := (mo.lo (mulI a (rootI a)).lo).1 (Int.le_refl _)
  have gu := (mo.hi (mulI a (rootI a)).hi).1 (Int.le_refl _)
  have rr := fine_iff.1 f4
  have kl := cor_ge x1 x2 (Int.le_refl _) (by omega) gl
  have ku := cor_le x1 x2 (show (rootI a).lo ≤ (rootI a).hi by omega) (Int.le_refl _) gu
  rw [e]
  have il := (inverse_in hi (y := (mulI a (rootI a)).hi) (by omega) (Int.le_refl _) (by omega)).1
  have iu := (inverse_in hi (y := (mulI a (rootI a)).lo) (Int.le_refl _) (by omega) (by omega)).2
  have c0 : 0 ≤ (inverseI (mulI a (rootI a))).lo := by
    obtain ⟨f1, f2, hs, _, eq⟩ := quot_good hi
    show 0 ≤ (quotI (ofI 1) (mulI a (rootI a))).lo
    rw [eq]
    refine loQ_ge.2 ?_
    rw [one_eq]
    refine ⟨⟨⟨?_, ?_⟩, ?_⟩, ?_⟩ <;> refine (le_qf.1 (by omega)).2 ?_ <;> (show 0 * _ ≤ 1073741824 * 1073741824; rw [Int.zero_mul]; decide)
  have c1 : 0 ≤ (inverseI (mulI a (rootI a))).hi := by
    have := fine_iff.1 (quot_good hi).2.2.2.1
    unfold inverseI at c0 ⊢
    omega
  generalize (inverseI (mulI a (rootI a))).lo = l at *
  generalize (inverseI (mulI a (rootI a))).hi = u at *
  generalize (mulI a (rootI a)).lo = bl' at *
  generalize (mulI a (rootI a)).hi = bh at *
  generalize (rootI a).lo = rl at *
  generalize (rootI a).hi = rh at *
  obtain ⟨g1, g2, g3, g4⟩ := g
  have hx0 : 0 < x := by omega
  refine ⟨c0, ?_, ?_⟩
  · -- l * (x * rh) <= l * bh * One <= One^3
    have s1 : l * (x * rh) ≤ l * (bh * 1073741824) := Int.mul_le_mul_of_nonneg_left ku c0
    have s2 : l * (bh * 1073741824) = l * bh * 1073741824 := by rw [Int.mul_assoc]
    have s3 : l * (x * rh) ≤ 1073741824 * 1073741824 * 1073741824 := by omega
    have s0 : 0 ≤ l * (x * rh) := Int.mul_nonneg c0 (Int.mul_nonneg (by omega) g2)
    have s4 := sq_le s0 s3
    have s5 : l * (x * rh) * (l * (x * rh)) = (l * l * (x * x)) * (rh * rh) := by
      simp only [Int.mul_left_comm, Int.mul_comm]
    have s6 : (l * l * (x * x)) * (x * 1073741824) ≤ (l * l * (x * x)) * (rh * rh) :=
      Int.mul_le_mul_of_nonneg_left g4 (Int.mul_nonneg (mul_self_nonneg' l) (mul_self_nonneg' x))
    have s7 : (l * l * (x * x)) * (x * 1073741824) = (l * l * (x * x * x)) * 1073741824 := by
      simp only [Int.mul_assoc]
    omega
  · have s1 : u * (bl' * 1073741824) ≤ u * (x * rl) := Int.mul_le_mul_of_nonneg_left kl c1
    have s2 : u * (bl' * 1073741824) = u * bl' * 1073741824 := by rw [Int.mul_assoc]
    have s3 : 1073741824 * 1073741824 * 1073741824 ≤ u * (x * rl) := by omega
    have s4 := sq_le (show (0 : Int) ≤ 1073741824 * 1073741824 * 1073741824 by decide) s3
    have s5 : u * (x * rl) * (u * (x * rl)) = (u * u * (x * x)) * (rl * rl) := by
      simp only [Int.mul_left_comm, Int.mul_comm]
    have s6 : (u * u * (x * x)) * (rl * rl) ≤ (u * u * (x * x)) * (x * 1073741824) :=
      Int.mul_le_mul_of_nonneg_left g3 (Int.mul_nonneg (mul_self_nonneg' u) (mul_self_nonneg' x))
    have s7 : (u * u * (x * x)) * (x * 1073741824) = (u * u * (x * x * x)) * 1073741824 := by
      simp only [Int.mul_assoc]
    omega
theorem cube_fits {a : Iv} (fa : fine a = true) (h1 : 4194304 ≤ a.lo) (h2 : a.hi ≤ 1099511627776) : (cubeI a).bad = false := by
  have ra := fine_iff.1 fa
  have hr := root_mk fa (by omega)
  have rr := fine_iff.1 hr.2
  have i1 := ones_in (x := a.lo) (by omega) (by omega)
  have i2 := ones_in (x := a.hi) (by omega) (by omega)
  have q1 : 67108864 ≤ (rootI a).lo := by
    rw [hr.1]
    show 67108864 ≤ rt (a.lo * 1073741824)
    obtain ⟨g0, g1, g2⟩ := rt_is i1.1 i1.2
    rcases Int.lt_or_le (rt (a.lo * 1073741824)) 67108864 with c | c
    · have := sq_le (show 0 ≤ rt (a.lo * 1073741824) + 1 by omega) (show rt (a.lo * 1073741824) + 1 ≤ 67108864 by omega)
      omega
    · exact c
  have q2 : (rootI a).hi ≤ 34359738368 := by
    rw [hr.1]
    exact (rc_is i2.1 i2.2).2.2 _ (by decide) (by omega)
  have b1 : ∀ p, Cor a (rootI a) p → 281474976710656 ≤ p ∧ p ≤ 1099511627776 * 34359738368 := by
    have key : ∀ x y : Int, a.lo ≤ x → x ≤ a.hi → (rootI a).lo ≤ y → y ≤ (rootI a).hi → 281474976710656 ≤ x * y ∧ x * y ≤ 1099511627776 * 34359738368 := by
      intro x y x1 x2 y1 y2
      constructor
      · have s1 := Int.mul_le_mul (show 4194304 ≤ x by omega) (show 67108864 ≤ y by omega) (by decide) (by omega)
        omega
      · have s1 := Int.mul_le_mul (show x ≤ 1099511627776 by omega) (show y ≤ 34359738368 by omega) (by omega) (by decide)
        omega
    refine cor_all.2 ⟨key _ _ ?_ ?_ ?_ ?_, key _ _ ?_ ?_ ?_ ?_, key _ _ ?_ ?_ ?_ ?_, key _ _ ?_ ?_ ?_ ?_⟩ <;> omega
  have mo := mul_ok fa hr.2 fun p hp => by have := b1 p hp; omega
  have rm := fine_iff.1 mo.ok
  have ml : 262144 ≤ (mulI a (rootI a)).lo := (mo.lo _).2 fun p hp => by have := b1 p hp; omega
  have e : (cubeI a) = inverseI (mulI a (rootI a)) := by
    unfold cubeI
    rw [fine1, fa, decide_eq_true (by omega : a.lo > 0)]
    rfl
  rw [e]
  have hq : fine (ofI 1) = true := by decide
  have hk : ∀ y : Int, 262144 ≤ y → 0 ≤ qf 1073741824 y ∧ qc 1073741824 y ≤ 4398046511104 := fun y hy =>
    ⟨(le_qf.1 (by omega)).2 (by rw [Int.zero_mul]; decide), (qc_le.1 (by omega)).2 (by
      have := Int.mul_le_mul_of_nonneg_left hy (show (0 : Int) ≤ 4398046511104 by decide)
      omega)⟩
  have k1 := hk (mulI a (rootI a)).lo ml
  have k2 := hk (mulI a (rootI a)).hi (by omega)
  have := quot_mk (a := ofI 1) (b := mulI a (rootI a)) hq mo.ok (by omega)
    (loQ_ge.2 (by rw [one_eq]; simp only; omega)) (hiQ_le.2 (by rw [one_eq]; simp only; omega))
  unfold inverseI
  rw [this.1]
theorem cube_mono {a p : Iv} (h : (cubeI a).bad = false) (fp : fine p = true) (p1 : a.lo ≤ p.lo) (p2 : p.hi ≤ a.hi) : holdsI (cubeI a) (cubeI p) = true := by
  obtain ⟨fa, h0, hr, hm, hi, e, hp⟩ := cube_good h
  have rp := fine_iff.1 fp
  have e2 : cubeI p = inverseI (mulI p (rootI p)) := by
    unfold cubeI
    rw [fine1, fp, decide_eq_true (by omega : p.lo > 0)]
    rfl
  have hroot := root_mono hr fp p1 p2
  have hr2 := root_mk fp (by omega)
  unfold holdsI at hroot
  simp only [Bool.and_eq_true, decide_eq_true_eq] at hroot
  have hmul := mul_mono fp p1 p2 hm
  have hmul2 : (mulI p (rootI a)).bad = false := by
    unfold holdsI at hmul
    simp only [Bool.and_eq_true] at hmul
    exact (fine_iff.1 (fine2.1 hmul.1).2).1
  have hm3 := mul_mono hr2.2 hroot.2.1 hroot.2.2 (by rw [mul_comm']; exact hmul2)
  rw [mul_comm' (rootI a) p, mul_comm' (rootI p) p] at hm3
  unfold holdsI at hmul hm3
  simp only [Bool.and_eq_true, decide_eq_true_eq] at hmul hm3
  rw [e, e2]
  unfold inverseI at hi ⊢
  exact quot_mono hi (by decide) (fine2.1 hm3.1).2 (Int.le_refl _) (Int.le_refl _) (by omega) (by omega)
theorem sign_part {a p : Iv} (fa : fine a = true) (fp : fine p = true) (p1 : a.lo ≤ p.lo) (p2 : p.hi ≤ a.hi) (h : signB a = true) : signB p = true ∧ signN a = signN p := by
  have ra := fine_iff.1 fa
  have rp := fine_iff.1 fp
  unfold signB signN at *
  rw [fine1, fa, Bool.true_and] at h
  rw [fine1, fine1, fa, fp, Bool.true_and, cond_true, cond_true]
  simp only [Bool.or_eq_true, decide_eq_true_eq] at *
  by_cases h1 : a.lo > 0
  · rw [if_pos h1, if_pos (by omega)]; exact ⟨.inl (by omega), rfl⟩
  · by_cases h2 : a.hi < 0
    · rw [if_neg h1, if_pos h2, if_neg (by omega), if_pos (by omega)]; exact ⟨.inr (.inl (by omega)), rfl⟩
    · rw [if_neg h1, if_neg h2, if_neg (by omega), if_neg (by omega)]; exact ⟨.inr (.inr (by omega)), rfl⟩
end Go.Nv
