/-
  Intervals: plain laws, with no program in sight.
-/
import Derived.Test.YtjfcndiodbaejaaDoorIvA
set_option maxRecDepth 100000
namespace Go.Iv
open Go Go.RowKit Go.Sx Go.Nm Go.Wd Go.Qt

/-! ### Floors and ceilings -/
theorem le_fq {p d k : Int} (hd : 0 < d) : k ≤ fq p d ↔ k * d ≤ p := by
  unfold fq; rw [if_pos hd]; exact Int.le_ediv_iff_mul_le hd
theorem cq_le {p d k : Int} (hd : 0 < d) : cq p d ≤ k ↔ p ≤ k * d := by
  have e := Int.mul_ediv_add_emod p d
  have r1 := Int.emod_nonneg p (show d ≠ 0 by omega)
  have r2 := Int.emod_lt_of_pos p hd
  unfold cq fr fq
  rw [if_pos hd, if_pos hd]
  by_cases h : p % d = 0
  · rw [if_pos h]
    rw [h, Int.add_zero] at e
    constructor
    · intro hk
      have := Int.mul_le_mul_of_nonneg_left hk (Int.le_of_lt hd)
      rw [Int.mul_comm k d]
      omega
    · intro hk
      have h2 : d * (p / d) ≤ d * k := by rw [e, Int.mul_comm d k]; exact hk
      exact Int.le_of_mul_le_mul_left h2 hd
  · rw [if_neg h]
    constructor
    · intro hk
      have := Int.mul_le_mul_of_nonneg_left hk (Int.le_of_lt hd)
      rw [Int.mul_add, Int.mul_one, Int.mul_comm d k] at this
      omega
    · intro hk
      have h2 : p / d < k := by
        refine Int.ediv_lt_of_lt_mul hd ?_
        rcases Int.lt_or_eq_of_le hk with h3 | h3
        · exact h3
        · exfalso
          apply h
          rw [h3]
          exact Int.mul_emod_left k d
      omega
theorem fq_flip {p d : Int} (hd : d < 0) : fq p d = fq (-p) (-d) ∧ cq p d = cq (-p) (-d) := by
  have h1 : fq p d = fq (-p) (-d) := by unfold fq; rw [if_neg (by omega), if_pos (by omega)]
  have h2 : fr p d = -(fr (-p) (-d)) := by unfold fr; rw [if_neg (by omega), if_pos (by omega)]
  refine ⟨h1, ?_⟩
  unfold cq
  rw [h1, h2]
  by_cases h : fr (-p) (-d) = 0
  · rw [if_pos h, if_pos (by omega)]
  · rw [if_neg h, if_neg (by omega)]
theorem fq_le_cq (p d : Int) : fq p d ≤ cq p d := by unfold cq; split <;> omega

theorem lin_ge {c b1 b2 y K : Int} (h1 : b1 ≤ y) (h2 : y ≤ b2) (k1 : K ≤ c * b1) (k2 : K ≤ c * b2) : K ≤ c * y := by
  rcases Int.le_total 0 c with hc | hc
  · exact Int.le_trans k1 (Int.mul_le_mul_of_nonneg_left h1 hc)
  · exact Int.le_trans k2 (Int.mul_le_mul_of_nonpos_left hc h2)
theorem lin_le {c b1 b2 y K : Int} (h1 : b1 ≤ y) (h2 : y ≤ b2) (k1 : c * b1 ≤ K) (k2 : c * b2 ≤ K) : c * y ≤ K := by
  rcases Int.le_total 0 c with hc | hc
  · exact Int.le_trans (Int.mul_le_mul_of_nonneg_left h2 hc) k2
  · exact Int.le_trans (Int.mul_le_mul_of_nonpos_left hc h1) k1

theorem mn_ge {a b k : Int} : k ≤ mn a b ↔ k ≤ a ∧ k ≤ b := by unfold mn; split <;> omega
theorem mx_le {a b k : Int} : mx a b ≤ k ↔ a ≤ k ∧ b ≤ k := by unfold mx; split <;> omega

/-! ### Products -/
theorem fine64 {a : Iv} (h : fine a = true) : I64 a.lo ∧ I64 a.hi := by have := fine_iff.1 h; unfold I64; omega
theorem byOk_iff {x n d : Int} : byOk x n d = true ↔ d ≠ 0 ∧ -1152921504606846976 ≤ fq (x * n) d ∧ cq (x * n) d ≤ 1152921504606846976 := by
  unfold byOk; simp
theorem by_ok {x n d : Int} (hx : I64 x) (hn : I64 n) (hd : I64 d) (h : byOk x n d = true) : byLo x n d = fq (x * n) d ∧ byHi x n d = cq (x * n) d := by
  obtain ⟨h1, h2, h3⟩ := byOk_iff.1 h
  have := fq_le_cq (x * n) d
  unfold byLo byHi
  rw [qv_ok fq (smmul hx hn) (sm64 hd) h1, qv_ok cq (smmul hx hn) (sm64 hd) h1]
  have i1 : i64B (fq (x * n) d) = true := by unfold i64B; simp only [Bool.and_eq_true, decide_eq_true_eq]; omega
  have i2 : i64B (cq (x * n) d) = true := by unfold i64B; simp only [Bool.and_eq_true, decide_eq_true_eq]; omega
  rw [if_pos i1, if_pos i2]
  exact ⟨rfl, rfl⟩
def Cor (a b : Iv) (p : Int) : Prop := p = a.lo * b.lo ∨ p = a.lo * b.hi ∨ p = a.hi * b.lo ∨ p = a.hi * b.hi
def MulFits (a b : Iv) : Prop := ∀ p, Cor a b p → -1152921504606846976 * 1073741824 ≤ p ∧ p ≤ 1152921504606846976 * 1073741824
structure MulOf (a b m : Iv) : Prop where
  ok : fine m = true
  lo : ∀ k, k ≤ m.lo ↔ ∀ p, Cor a b p → k * 1073741824 ≤ p
  hi : ∀ k, m.hi ≤ k ↔ ∀ p, Cor a b p → p ≤ k * 1073741824
theorem cor_all {a b : Iv} {Q : Int → Prop} : (∀ p, Cor a b p → Q p) ↔ Q (a.lo * b.lo) ∧ Q (a.lo * b.hi) ∧ Q (a.hi * b.lo) ∧ Q (a.hi * b.hi) := by
  constructor
  · intro h
    exact ⟨h _ (.inl rfl), h _ (.inr (.inl rfl)), h _ (.inr (.inr (.inl rfl))), h _ (.inr (.inr (.inr rfl)))⟩
  · rintro ⟨h1, h2, h3, h4⟩ p (rfl | rfl | rfl | rfl)
    · exact h1
    · exact h2
    · exact h3
    · exact h4
theorem byO {x n : Int} : byOk x n 1073741824 = true ↔ -1152921504606846976 * 1073741824 ≤ x * n ∧ x * n ≤ 1152921504606846976 * 1073741824 := by
  rw [byOk_iff, le_fq (by decide), cq_le (by decide)]
  exact ⟨fun h => h.2, fun h => ⟨by decide, h⟩⟩
theorem mul_fits {a b : Iv} : MulFits a b ↔ (byOk a.lo b.lo 1073741824 && (byOk a.lo b.hi 1073741824 && (byOk a.hi b.lo 1073741824 && byOk a.hi b.hi 1073741824))) = true := by
  unfold MulFits
  rw [cor_all (Q := fun p => -1152921504606846976 * 1073741824 ≤ p ∧ p ≤ 1152921504606846976 * 1073741824)]
  simp only [Bool.and_eq_true, byO]
theorem mul_ok {a b : Iv} (ha : fine a = true) (hb : fine b = true) (h : MulFits a b) : MulOf a b (mulI a b) := by
  have hf := mul_fits.1 h
  have ho : I64 1073741824 := by unfold I64; omega
  obtain ⟨a1, a2⟩ := fine64 ha
  obtain ⟨b1, b2⟩ := fine64 hb
  have hq := hf
  simp only [Bool.and_eq_true] at hq
  obtain ⟨q1, q2, q3, q4⟩ := hq
  obtain ⟨c1, d1⟩ := by_ok a1 b1 ho q1
  obtain ⟨c2, d2⟩ := by_ok a1 b2 ho q2
  obtain ⟨c3, d3⟩ := by_ok a2 b1 ho q3
  obtain ⟨c4, d4⟩ := by_ok a2 b2 ho q4
  have lo : ∀ k, k ≤ (mulR a b).lo ↔ ∀ p, Cor a b p → k * 1073741824 ≤ p := fun k => by
    rw [cor_all (Q := fun p => k * 1073741824 ≤ p)]
    unfold mulR wide4
    rw [c1, c2, c3, c4]
    simp only [mn_ge, le_fq (show (0 : Int) < 1073741824 by decide)]
    exact ⟨fun ⟨⟨⟨⟨h1, _⟩, h2⟩, h3⟩, h4⟩ => ⟨h1, h2, h3, h4⟩, fun ⟨h1, h2, h3, h4⟩ => ⟨⟨⟨⟨h1, h1⟩, h2⟩, h3⟩, h4⟩⟩
  have hi : ∀ k, (mulR a b).hi ≤ k ↔ ∀ p, Cor a b p → p ≤ k * 1073741824 := fun k => by
    rw [cor_all (Q := fun p => p ≤ k * 1073741824)]
    unfold mulR wide4
    rw [d1, d2, d3, d4]
    simp only [mx_le, cq_le (show (0 : Int) < 1073741824 by decide)]
    exact ⟨fun ⟨⟨⟨⟨h1, _⟩, h2⟩, h3⟩, h4⟩ => ⟨h1, h2, h3, h4⟩, fun ⟨h1, h2, h3, h4⟩ => ⟨⟨⟨⟨h1, h1⟩, h2⟩, h3⟩, h4⟩⟩
  have hfine : fine (mulR a b) = true := by
    have l1 := (lo (-1152921504606846976)).2 fun p hp => (h p hp).1
    have u1 := (hi 1152921504606846976).2 fun p hp => (h p hp).2
    have l2 := (lo (mulR a b).lo).1 (Int.le_refl _) (a.lo * b.lo) (.inl rfl)
    have u2 := (hi (mulR a b).hi).1 (Int.le_refl _) (a.lo * b.lo) (.inl rfl)
    exact fine_iff.2 ⟨rfl, l1, by omega, u1⟩
  have e : mulI a b = mulR a b := by
    unfold mulI
    rw [fine2.2 ⟨ha, hb⟩, hf, told_ok hfine]
    rfl
  rw [e]
  exact ⟨hfine, lo, hi⟩
theorem mul_no {a b : Iv} (h : ¬ (fine a = true ∧ fine b = true ∧ MulFits a b)) : mulI a b = bd := by
  unfold mulI
  have : (fineL [a, b] && (byOk a.lo b.lo 1073741824 && (byOk a.lo b.hi 1073741824 && (byOk a.hi b.lo 1073741824 && byOk a.hi b.hi 1073741824)))) = false := by
    rw [← Bool.not_eq_true]
    intro hc
    rw [Bool.and_eq_true] at hc
    exact h ⟨(fine2.1 hc.1).1, (fine2.1 hc.1).2, mul_fits.2 hc.2⟩
  rw [this]
  rfl
theorem mul_good {a b : Iv} (h : (mulI a b).bad = false) : fine a = true ∧ fine b = true ∧ MulFits a b ∧ MulOf a b (mulI a b) := by
  by_cases hc : fine a = true ∧ fine b = true ∧ MulFits a b
  · exact ⟨hc.1, hc.2.1, hc.2.2, mul_ok hc.1 hc.2.1 hc.2.2⟩
  · rw [mul_no hc] at h; cases h
theorem MulOf.unique {a b m m' : Iv} (h : MulOf a b m) (h' : MulOf a b m') : m = m' := by
  have e1 : m.lo = m'.lo := Int.le_antisymm ((h'.lo _).2 ((h.lo _).1 (Int.le_refl _))) ((h.lo _).2 ((h'.lo _).1 (Int.le_refl _)))
  have e2 : m.hi = m'.hi := Int.le_antisymm ((h.hi _).2 ((h'.hi _).1 (Int.le_refl _))) ((h'.hi _).2 ((h.hi _).1 (Int.le_refl _)))
  have e3 := (fine_iff.1 h.ok).1
  have e4 := (fine_iff.1 h'.ok).1
  cases m; cases m'; simp_all
theorem cor_comm {a b : Iv} {p : Int} (h : Cor a b p) : Cor b a p := by
  unfold Cor at *
  rw [Int.mul_comm b.lo a.lo, Int.mul_comm b.lo a.hi, Int.mul_comm b.hi a.lo, Int.mul_comm b.hi a.hi]
  rcases h with h | h | h | h
  · exact .inl h
  · exact .inr (.inr (.inl h))
  · exact .inr (.inl h)
  · exact .inr (.inr (.inr h))
theorem MulOf.comm {a b m : Iv} (h : MulOf a b m) : MulOf b a m :=
  ⟨h.ok, fun k => (h.lo k).trans ⟨fun g p hp => g p (cor_comm hp), fun g p hp => g p (cor_comm hp)⟩, fun k => (h.hi k).trans ⟨fun g p hp => g p (cor_comm hp), fun g p hp => g p (cor_comm hp)⟩⟩
theorem mul_comm' (a b : Iv) : mulI a b = mulI b a := by
  by_cases hc : fine a = true ∧ fine b = true ∧ MulFits a b
  · have hc' : MulFits b a := fun p hp => hc.2.2 p (cor_comm hp)
    exact (mul_ok hc.1 hc.2.1 hc.2.2).unique (mul_ok hc.2.1 hc.1 hc').comm
  · have hc' : ¬ (fine b = true ∧ fine a = true ∧ MulFits b a) := fun ⟨h1, h2, h3⟩ => hc ⟨h2, h1, fun p hp => h3 p (cor_comm hp)⟩
    rw [mul_no hc, mul_no hc']
/-- What lies in the factors lies between the corners. -/
theorem cor_ge {a b : Iv} {x y K : Int} (x1 : a.lo ≤ x) (x2 : x ≤ a.hi) (y1 : b.lo ≤ y) (y2 : y ≤ b.hi) (h : ∀ p, Cor a b p → K ≤ p) : K ≤ x * y := by
  rw [cor_all (Q := fun p => K ≤ p)] at h
  obtain ⟨h1, h2, h3, h4⟩ := h
  have k1 := lin_ge y1 y2 h1 h2
  have k2 := lin_ge y1 y2 h3 h4
  rw [Int.mul_comm] at k1 k2 ⊢
  exact lin_ge x1 x2 k1 k2
theorem cor_le {a b : Iv} {x y K : Int} (x1 : a.lo ≤ x) (x2 : x ≤ a.hi) (y1 : b.lo ≤ y) (y2 : y ≤ b.hi) (h : ∀ p, Cor a b p → p ≤ K) : x * y ≤ K := by
  rw [cor_all (Q := fun p => p ≤ K)] at h
  obtain ⟨h1, h2, h3, h4⟩ := h
  have k1 := lin_le y1 y2 h1 h2
  have k2 := lin_le y1 y2 h3 h4
  rw [Int.mul_comm] at k1 k2 ⊢
  exact lin_le x1 x2 k1 k2
/-- A product of wider intervals holds it. -/
theorem mul_mono {a h d : Iv} (ha : fine a = true) (h1 : h.lo ≤ a.lo) (h2 : a.hi ≤ h.hi) (hy : (mulI h d).bad = false) : holdsI (mulI h d) (mulI a d) = true := by
  obtain ⟨fh, fd, hf, hm⟩ := mul_good hy
  have ra := fine_iff.1 ha
  have rd' := fine_iff.1 fd
  have ge : ∀ p, Cor a d p → (mulI h d).lo * 1073741824 ≤ p := fun p hp => by
    have hk := (hm.lo _).1 (Int.le_refl _)
    rcases hp with rfl | rfl | rfl | rfl <;> exact cor_ge (by omega) (by omega) (by omega) (by omega) hk
  have le : ∀ p, Cor a d p → p ≤ (mulI h d).hi * 1073741824 := fun p hp => by
    have hk := (hm.hi _).1 (Int.le_refl _)
    rcases hp with rfl | rfl | rfl | rfl <;> exact cor_le (by omega) (by omega) (by omega) (by omega) hk
  have rm := fine_iff.1 hm.ok
  have fits : MulFits a d := fun p hp => by
    have := ge p hp
    have := le p hp
    omega
  have hma := mul_ok ha fd fits
  have g1 := (hma.lo _).2 ge
  have g2 := (hma.hi _).2 le
  unfold holdsI
  rw [fine2.2 ⟨hm.ok, hma.ok⟩, decide_eq_true g1, decide_eq_true g2]
  rfl
theorem mul_one' {a : Iv} (ha : fine a = true) : mulI ⟨1073741824, 1073741824, false⟩ a = a := by
  have ra := fine_iff.1 ha
  have hO : fine ⟨1073741824, 1073741824, false⟩ = true := by decide
  have hm : MulOf ⟨1073741824, 1073741824, false⟩ a a := ⟨ha, fun k => by
    rw [cor_all (Q := fun p => k * 1073741824 ≤ p)]
    show _ ↔ k * 1073741824 ≤ 1073741824 * a.lo ∧ k * 1073741824 ≤ 1073741824 * a.hi ∧ k * 1073741824 ≤ 1073741824 * a.lo ∧ k * 1073741824 ≤ 1073741824 * a.hi
    omega, fun k => by
    rw [cor_all (Q := fun p => p ≤ k * 1073741824)]
    show _ ↔ 1073741824 * a.lo ≤ k * 1073741824 ∧ 1073741824 * a.hi ≤ k * 1073741824 ∧ 1073741824 * a.lo ≤ k * 1073741824 ∧ 1073741824 * a.hi ≤ k * 1073741824
    omega⟩
  refine (mul_ok hO ha fun p hp => ?_).unique hm
  have g1 := (hm.lo a.lo).1 (Int.le_refl _) p hp
  have g2 := (hm.hi a.hi).1 (Int.le_refl _) p hp
  omega
theorem mul_zero' {a : Iv} (ha : fine a = true) : mulI ⟨0, 0, false⟩ a = ⟨0, 0, false⟩ := by
  have hO : fine ⟨0, 0, false⟩ = true := by decide
  have hm : MulOf ⟨0, 0, false⟩ a ⟨0, 0, false⟩ := ⟨hO, fun k => by
    rw [cor_all (Q := fun p => k * 1073741824 ≤ p)]
    show _ ↔ k * 1073741824 ≤ 0 * a.lo ∧ k * 1073741824 ≤ 0 * a.hi ∧ k * 1073741824 ≤ 0 * a.lo ∧ k * 1073741824 ≤ 0 * a.hi
    simp only [Int.zero_mul]
    show k ≤ 0 ↔ _
    omega, fun k => by
    rw [cor_all (Q := fun p => p ≤ k * 1073741824)]
    show _ ↔ 0 * a.lo ≤ k * 1073741824 ∧ 0 * a.hi ≤ k * 1073741824 ∧ 0 * a.lo ≤ k * 1073741824 ∧ 0 * a.hi ≤ k * 1073741824
    simp only [Int.zero_mul]
    show 0 ≤ k ↔ _
    omega⟩
  refine (mul_ok hO ha fun p hp => ?_).unique hm
  have g1 := (hm.lo 0).1 (Int.le_refl _) p hp
  have g2 := (hm.hi 0).1 (Int.le_refl _) p hp
  omega
end Go.Iv
