/-
  Intervals: what the documents say of them, with no program in sight.
-/
import Derived.Test.YtdnpnccieabmiaaDoorQtb
set_option maxRecDepth 100000
namespace Go.Iv
open Go Go.RowKit Go.Sx Go.Nm Go.Wd Go.Qt
structure Iv where
  lo : Int
  hi : Int
  bad : Bool
  deriving DecidableEq
@[reducible] def I (a : Iv) : Value := .agg #[.int .i64 a.lo, .int .i64 a.hi, .bool a.bad]
def rd : Value → Iv
  | .agg ⟨[.int _ x, .int _ y, .bool b]⟩ => ⟨x, y, b⟩
  | _ => ⟨0, 0, true⟩
def fine (a : Iv) : Bool := !a.bad && (decide (a.lo ≥ -1152921504606846976) && (decide (a.lo ≤ a.hi) && decide (a.hi ≤ 1152921504606846976)))
def fineL : List Iv → Bool
  | [] => true
  | a :: l => fine a && fineL l
def bd : Iv := ⟨0, 0, true⟩
def told (a : Iv) : Iv := bif fine a then a else bd
def addI (a b : Iv) : Iv := bif fineL [a, b] then told ⟨a.lo + b.lo, a.hi + b.hi, false⟩ else bd
def subI (a b : Iv) : Iv := bif fineL [a, b] then told ⟨a.lo - b.hi, a.hi - b.lo, false⟩ else bd
def negI (a : Iv) : Iv := bif fineL [a] then told ⟨-a.hi, -a.lo, false⟩ else bd
def pointI (n : Int) : Iv := told ⟨n, n, false⟩
def ofI (n : Int) : Iv := bif decide (-1073741824 ≤ n) && decide (n ≤ 1073741824) then ⟨n * 1073741824, n * 1073741824, false⟩ else bd
def mn (a b : Int) : Int := if b < a then b else a
def mx (a b : Int) : Int := if b > a then b else a
def makeI (a b : Int) : Iv := told ⟨mn a b, mx a b, false⟩
def byOk (x n d : Int) : Bool := decide (d ≠ 0) && (decide (-1152921504606846976 ≤ fq (x * n) d) && decide (cq (x * n) d ≤ 1152921504606846976))
def byLo (x n d : Int) : Int := if i64B (qv fq (x * n) d) then qv fq (x * n) d else 0
def byHi (x n d : Int) : Int := if i64B (qv cq (x * n) d) then qv cq (x * n) d else 0
def wide2 (l0 h0 l1 h1 : Int) : Iv := ⟨mn (mn l0 l0) l1, mx (mx h0 h0) h1, false⟩
def wide4 (l0 h0 l1 h1 l2 h2 l3 h3 : Int) : Iv := ⟨mn (mn (mn (mn l0 l0) l1) l2) l3, mx (mx (mx (mx h0 h0) h1) h2) h3, false⟩
def mulR (a b : Iv) : Iv := wide4 (byLo a.lo b.lo 1073741824) (byHi a.lo b.lo 1073741824) (byLo a.lo b.hi 1073741824) (byHi a.lo b.hi 1073741824) (byLo a.hi b.lo 1073741824) (byHi a.hi b.lo 1073741824) (byLo a.hi b.hi 1073741824) (byHi a.hi b.hi 1073741824)
def mulI (a b : Iv) : Iv :=
  bif fineL [a, b] && (byOk a.lo b.lo 1073741824 && (byOk a.lo b.hi 1073741824 && (byOk a.hi b.lo 1073741824 && byOk a.hi b.hi 1073741824))) then told (mulR a b) else bd
def partR (a : Iv) (n d : Int) : Iv := wide2 (byLo a.lo n d) (byHi a.lo n d) (byLo a.hi n d) (byHi a.hi n d)
def partI (a : Iv) (n d : Int) : Iv := bif fineL [a] && (byOk a.lo n d && byOk a.hi n d) then told (partR a n d) else bd
def meetI (a b : Iv) : Iv := bif fineL [a, b] then told ⟨mx a.lo b.lo, mn a.hi b.hi, false⟩ else bd
def holdsI (a b : Iv) : Bool := fineL [a, b] && (decide (a.lo ≤ b.lo) && decide (b.hi ≤ a.hi))
theorem fine_iff {a : Iv} : fine a = true ↔ a.bad = false ∧ -1152921504606846976 ≤ a.lo ∧ a.lo ≤ a.hi ∧ a.hi ≤ 1152921504606846976 := by
  unfold fine; simp
theorem fine2 {a b : Iv} : fineL [a, b] = true ↔ fine a = true ∧ fine b = true := by
  unfold fineL fineL fineL; simp
theorem fine1 {a : Iv} : fineL [a] = fine a := by
  unfold fineL fineL; simp
theorem told_ok {a : Iv} (h : fine a = true) : told a = a := by unfold told; rw [h]; rfl
theorem told_no {a : Iv} (h : fine a = false) : told a = bd := by unfold told; rw [h]; rfl
end Go.Iv
/-
  Intervals: plain laws, with no program in sight.
-/
namespace Go.Iv
open Go Go.RowKit Go.Sx Go.Nm Go.Wd Go.Qt
theorem le_fq {p d k : Int} (hd : 0 < d) : k ≤ fq p d ↔ k * d ≤ p := by
  unfold fq; rw [if_pos hd]; exact Int.le_ediv_iff_mul_le hd
theorem cq_le {p d k : Int} (hd : 0 < d) : cq p d ≤ k ↔ p ≤ k * d := by
  have e := Int.mul_ediv_add_emod p d
  have r1 := Int.emod_nonneg p (show d ≠ 0 by omega)
  have r2 := Int.emod_lt_of_pos p hd
  unfold cq fr fq
  rw [if_pos hd, if_pos hd]
  by_cases h : p % d = 0
  · rw [if_pos h]
    rw [h, Int.add_zero] at e
    constructor
    · intro hk
      have := Int.mul_le_mul_of_nonneg_left hk (Int.le_of_lt hd)
      rw [Int.mul_comm k d]
      omega
    · intro hk
      have h2 : d * (p / d) ≤ d * k := by rw [e, Int.mul_comm d k]; exact hk
      exact Int.le_of_mul_le_mul_left h2 hd
  · rw [if_neg h]
    constructor
    · intro hk
      have := Int.mul_le_mul_of_nonneg_left hk (Int.le_of_lt hd)
      rw [Int.mul_add, Int.mul_one, Int.mul_comm d k] at this
      omega
    · intro hk
      have h2 : p / d < k := by
        refine Int.ediv_lt_of_lt_mul hd ?_
        rcases Int.lt_or_eq_of_le hk with h3 | h3
        · exact h3
        · exfalso
          apply h
          rw [h3]
          exact Int.mul_emod_left k d
      omega
theorem fq_flip {p d : Int} (hd : d < 0) : fq p d = fq (-p) (-d) ∧ cq p d = cq (-p) (-d) := by
  have h1 : fq p d = fq (-p) (-d) := by unfold fq; rw [if_neg (by omega), if_pos (by omega)]
  have h2 : fr p d = -(fr (-p) (-d)) := by unfold fr; rw [if_neg (by omega), if_pos (by omega)]
  refine ⟨h1, ?_⟩
  unfold cq
  rw [h1, h2]
  by_cases h : fr (-p) (-d) = 0
  · rw [if_pos h, if_pos (by omega)]
  · rw [if_neg h, if_neg (by omega)]
theorem fq_le_cq (p d : Int) : fq p d ≤ cq p d := by unfold cq; split <;> omega
theorem mn_ge {a b k : Int} : k ≤ mn a b ↔ k ≤ a ∧ k ≤ b := by unfold mn; split <;> omega
theorem mx_le {a b k : Int} : mx a b ≤ k ↔ a ≤ k ∧ b ≤ k := by unfold mx; split <;> omega
theorem fine64 {a : Iv} (h : fine a = true) : I64 a.lo ∧ I64 a.hi := by have := fine_iff.1 h; unfold I64; omega
theorem byOk_iff {x n d : Int} : byOk x n d = true ↔ d ≠ 0 ∧ -1152921504606846976 ≤ fq (x * n) d ∧ cq (x * n) d ≤ 1152921504606846976 := by
  unfold byOk; simp
theorem by_ok {x n d : Int} (hx : I64 x) (hn : I64 n) (hd : I64 d) (h : byOk x n d = true) : byLo x n d = fq (x * n) d ∧ byHi x n d = cq (x * n) d := by
  obtain ⟨h1, h2, h3⟩ := byOk_iff.1 h
  have := fq_le_cq (x * n) d
  unfold byLo byHi
  rw [qv_ok fq (smmul hx hn) (sm64 hd) h1, qv_ok cq (smmul hx hn) (sm64 hd) h1]
  have i1 : i64B (fq (x * n) d) = true := by unfold i64B; simp only [Bool.and_eq_true, decide_eq_true_eq]; omega
  have i2 : i64B (cq (x * n) d) = true := by unfold i64B; simp only [Bool.and_eq_true, decide_eq_true_eq]; omega
  rw [if_pos i1, if_pos i2]
  exact ⟨rfl, rfl⟩
def Cor (a b : Iv) (p : Int) : Prop := p = a.lo * b.lo ∨ p = a.lo * b.hi ∨ p = a.hi * b.lo ∨ p = a.hi * b.hi
def MulFits (a b : Iv) : Prop := ∀ p, Cor a b p → -1152921504606846976 * 1073741824 ≤ p ∧ p ≤ 1152921504606846976 * 1073741824
structure MulOf (a b m : Iv) : Prop where
  ok : fine m = true
  lo : ∀ k, k ≤ m.lo ↔ ∀ p, Cor a b p → k * 1073741824 ≤ p
  hi : ∀ k, m.hi ≤ k ↔ ∀ p, Cor a b p → p ≤ k * 1073741824
theorem cor_all {a b : Iv} {Q : Int → Prop} : (∀ p, Cor a b p → Q p) ↔ Q (a.lo * b.lo) ∧ Q (a.lo * b.hi) ∧ Q (a.hi * b.lo) ∧ Q (a.hi * b.hi) := by
  constructor
  · intro h
    exact ⟨h _ (.inl rfl), h _ (.inr (.inl rfl)), h _ (.inr (.inr (.inl rfl))), h _ (.inr (.inr (.inr rfl)))⟩
  · rintro ⟨h1, h2, h3, h4⟩ p (rfl | rfl | rfl | rfl)
    · exact h1
    · exact h2
    · exact h3
    · exact h4
theorem byO {x n : Int} : byOk x n 1073741824 = true ↔ -1152921504606846976 * 1073741824 ≤ x * n ∧ x * n ≤ 1152921504606846976 * 1073741824 := by
  rw [byOk_iff, le_fq (by decide), cq_le (by decide)]
  exact ⟨fun h => h.2, fun h => ⟨by decide, h⟩⟩
theorem mul_fits {a b : Iv} : MulFits a b ↔ (byOk a.lo b.lo 1073741824 && (byOk a.lo b.hi 1073741824 && (byOk a.hi b.lo 1073741824 && byOk a.hi b.hi 1073741824))) = true := by
  unfold MulFits
  rw [cor_all (Q := fun p => -1152921504606846976 * 1073741824 ≤ p ∧ p ≤ 1152921504606846976 * 1073741824)]
  simp only [Bool.and_eq_true, byO]
theorem mul_ok {a b : Iv} (ha : fine a = true) (hb : fine b = true) (h : MulFits a b) : MulOf a b (mulI a b) := by
  have hf := mul_fits.1 h
  have ho : I64 1073741824 := by unfold I64; omega
  obtain ⟨a1, a2⟩ := fine64 ha
  obtain ⟨b1, b2⟩ := fine64 hb
  have hq := hf
  simp only [Bool.and_eq_true] at hq
  obtain ⟨q1, q2, q3, q4⟩ := hq
  obtain ⟨c1, d1⟩ := by_ok a1 b1 ho q1
  obtain ⟨c2, d2⟩ := by_ok a1 b2 ho q2
  obtain ⟨c3, d3⟩ := by_ok a2 b1 ho q3
  obtain ⟨c4, d4⟩ := by_ok a2 b2 ho q4
  have lo : ∀ k, k ≤ (mulR a b).lo ↔ ∀ p, Cor a b p → k * 1073741824 ≤ p := fun k => by
    rw [cor_all (Q := fun p => k * 1073741824 ≤ p)]
    unfold mulR wide4
    rw [c1, c2, c3, c4]
    simp only [mn_ge, le_fq (show (0 : Int) < 1073741824 by decide)]
    exact ⟨fun ⟨⟨⟨⟨h1, _⟩, h2⟩, h3⟩, h4⟩ => ⟨h1, h2, h3, h4⟩, fun ⟨h1, h2, h3, h4⟩ => ⟨⟨⟨⟨h1, h1⟩, h2⟩, h3⟩, h4⟩⟩
  have hi : ∀ k, (mulR a b).hi ≤ k ↔ ∀ p, Cor a b p → p ≤ k * 1073741824 := fun k => by
    rw [cor_all (Q := fun p => p ≤ k * 1073741824)]
    unfold mulR wide4
    rw [d1, d2, d3, d4]
    simp only [mx_le, cq_le (show (0 : Int) < 1073741824 by decide)]
    exact ⟨fun ⟨⟨⟨⟨h1, _⟩, h2⟩, h3⟩, h4⟩ => ⟨h1, h2, h3, h4⟩, fun ⟨h1, h2, h3, h4⟩ => ⟨⟨⟨⟨h1, h1⟩, h2⟩, h3⟩, h4⟩⟩
  have hfine : fine (mulR a b) = true := by
    have l1 := (lo (-1152921504606846976)).2 fun p hp => (h p hp).1
    have u1 := (hi 1152921504606846976).2 fun p hp => (h p hp).2
    have l2 := (lo (mulR a b).lo).1 (Int.le_refl _) (a.lo * b.lo) (.inl rfl)
    have u2 := (hi (mulR a b).hi).1 (Int.le_refl _) (a.lo * b.lo) (.inl rfl)
    exact fine_iff.2 ⟨rfl, l1, by omega, u1⟩
  have e : mulI a b = mulR a b := by
    unfold mulI
    rw [fine2.2 ⟨ha, hb⟩, hf, told_ok hfine]
    rfl
  rw [e]
  exact ⟨hfine, lo, hi⟩
theorem mul_no {a b : Iv} (h : ¬ (fine a = true ∧ fine b = true ∧ MulFits a b)) : mulI a b = bd := by
  unfold mulI
  have : (fineL [a, b] && (byOk a.lo b.lo 1073741824 && (byOk a.lo b.hi 1073741824 && (byOk a.hi b.lo 1073741824 && byOk a.hi b.hi 1073741824)))) = false := by
    rw [← Bool.not_eq_true]
    intro hc
    rw [Bool.and_eq_true] at hc
    exact h ⟨(fine2.1 hc.1).1, (fine2.1 hc.1).2, mul_fits.2 hc.2⟩
  rw [this]
  rfl
theorem mul_good {a b : Iv} (h : (mulI a b).bad = false) : fine a = true ∧ fine b = true ∧ MulFits a b ∧ MulOf a b (mulI a b) := by
  by_cases hc : fine a = true ∧ fine b = true ∧ MulFits a b
  · exact ⟨hc.1, hc.2.1, hc.2.2, mul_ok hc.1 hc.2.1 hc.2.2⟩
  · rw [mul_no hc] at h; cases h
theorem MulOf.unique {a b m m' : Iv} (h : MulOf a b m) (h' : MulOf a b m') : m = m' := by
  have e1 : m.lo = m'.lo := Int.le_antisymm ((h'.lo _).2 ((h.lo _).1 (Int.le_refl _))) ((h.lo _).2 ((h'.lo _).1 (Int.le_refl _)))
  have e2 : m.hi = m'.hi := Int.le_antisymm ((h.hi _).2 ((h'.hi _).1 (Int.le_refl _))) ((h'.hi _).2 ((h.hi _).1 (Int.le_refl _)))
  have e3 := (fine_iff.1 h.ok).1
  have e4 := (fine_iff.1 h'.ok).1
  cases m; cases m'; simp_all
theorem cor_comm {a b : Iv} {p : Int} (h : Cor a b p) : Cor b a p := by
  unfold Cor at *
  rw [Int.mul_comm b.lo a.lo, Int.mul_comm b.lo a.hi, Int.mul_comm b.hi a.lo, Int.mul_comm b.hi a.hi]
  rcases h with h | h | h | h
  · exact .inl h
  · exact .inr (.inr (.inl h))
  · exact .inr (.inl h)
  · exact .inr (.inr (.inr h))
theorem MulOf.comm {a b m : Iv} (h : MulOf a b m) : MulOf b a m :=
  ⟨h.ok, fun k => (h.lo k).trans ⟨fun g p hp => g p (cor_comm hp), fun g p hp => g p (cor_comm hp)⟩, fun k => (h.hi k).trans ⟨fun g p hp => g p (cor_comm hp), fun g p hp => g p (cor_comm hp)⟩⟩
theorem mul_comm' (a b : Iv) : mulI a b = mulI b a := by
  by_cases hc : fine a = true ∧ fine b = true ∧ MulFits a b
  · have hc' : MulFits b a := fun p hp => hc.2.2 p (cor_comm hp)
    exact (mul_ok hc.1 hc.2.1 hc.2.2).unique (mul_ok hc.2.1 hc.1 hc').comm
  · have hc' : ¬ (fine b = true ∧ fine a = true ∧ MulFits b a) := fun ⟨h1, h2, h3⟩ => hc ⟨h2, h1, fun p hp => h3 p (cor_comm hp)⟩
    rw [mul_no hc, mul_no hc']
end Go.Iv
/-
  Intervals: plain laws of sums, parts, hulls, meets; the laws' own, with no program in sight.
-/
namespace Go.Iv
open Go Go.RowKit Go.Sx Go.Nm Go.Wd Go.Qt
theorem told_good {a : Iv} (h : (told a).bad = false) : fine a = true ∧ told a = a := by
  cases hf : fine a with
  | true => exact ⟨rfl, told_ok hf⟩
  | false => rw [told_no hf] at h; cases h
theorem add_good {a b : Iv} (h : (addI a b).bad = false) : fine a = true ∧ fine b = true ∧ fine (addI a b) = true ∧ addI a b = ⟨a.lo + b.lo, a.hi + b.hi, false⟩ := by
  unfold addI at *
  cases hf : fineL [a, b] with
  | false => rw [hf] at h; cases h
  | true =>
    rw [hf] at h
    obtain ⟨h1, h2⟩ := told_good h
    obtain ⟨g1, g2⟩ := fine2.1 hf
    refine ⟨g1, g2, ?_, h2⟩
    show fine (told _) = true
    rw [h2]; exact h1
theorem sub_good {a b : Iv} (h : (subI a b).bad = false) : fine a = true ∧ fine b = true ∧ fine (subI a b) = true ∧ subI a b = ⟨a.lo - b.hi, a.hi - b.lo, false⟩ := by
  unfold subI at *
  cases hf : fineL [a, b] with
  | false => rw [hf] at h; cases h
  | true =>
    rw [hf] at h
    obtain ⟨h1, h2⟩ := told_good h
    obtain ⟨g1, g2⟩ := fine2.1 hf
    refine ⟨g1, g2, ?_, h2⟩
    show fine (told _) = true
    rw [h2]; exact h1
theorem add_ok {a b : Iv} (ha : fine a = true) (hb : fine b = true) (h1 : -1152921504606846976 ≤ a.lo + b.lo) (h2 : a.hi + b.hi ≤ 1152921504606846976) : addI a b = ⟨a.lo + b.lo, a.hi + b.hi, false⟩ ∧ fine (addI a b) = true := by
  have ra := fine_iff.1 ha
  have rb := fine_iff.1 hb
  have hf : fine ⟨a.lo + b.lo, a.hi + b.hi, false⟩ = true := fine_iff.2 ⟨rfl, h1, by show a.lo + b.lo ≤ a.hi + b.hi; omega, h2⟩
  have e : addI a b = ⟨a.lo + b.lo, a.hi + b.hi, false⟩ := by
    unfold addI; rw [fine2.2 ⟨ha, hb⟩]; exact told_ok hf
  rw [e]
  exact ⟨rfl, hf⟩
theorem sub_ok {a b : Iv} (ha : fine a = true) (hb : fine b = true) (h1 : -1152921504606846976 ≤ a.lo - b.hi) (h2 : a.hi - b.lo ≤ 1152921504606846976) : subI a b = ⟨a.lo - b.hi, a.hi - b.lo, false⟩ ∧ fine (subI a b) = true := by
  have ra := fine_iff.1 ha
  have rb := fine_iff.1 hb
  have hf : fine ⟨a.lo - b.hi, a.hi - b.lo, false⟩ = true := fine_iff.2 ⟨rfl, h1, by show a.lo - b.hi ≤ a.hi - b.lo; omega, h2⟩
  have e : subI a b = ⟨a.lo - b.hi, a.hi - b.lo, false⟩ := by
    unfold subI; rw [fine2.2 ⟨ha, hb⟩]; exact told_ok hf
  rw [e]
  exact ⟨rfl, hf⟩
theorem neg_ok {a : Iv} (ha : fine a = true) : negI a = ⟨-a.hi, -a.lo, false⟩ ∧ fine (negI a) = true := by
  have ra := fine_iff.1 ha
  have hf : fine ⟨-a.hi, -a.lo, false⟩ = true := fine_iff.2 ⟨rfl, by show _ ≤ -a.hi; omega, by show -a.hi ≤ -a.lo; omega, by show -a.lo ≤ _; omega⟩
  have e : negI a = ⟨-a.hi, -a.lo, false⟩ := by
    unfold negI; rw [fine1, ha]; exact told_ok hf
  rw [e]
  exact ⟨rfl, hf⟩
theorem neg_neg' {a : Iv} (ha : fine a = true) : negI (negI a) = a := by
  have h := neg_ok ha
  have h2 := neg_ok h.2
  rw [h2.1, h.1]
  have := (fine_iff.1 ha).1
  cases a
  simp_all
theorem holds_mk {a b : Iv} (ha : fine a = true) (hb : fine b = true) (h1 : a.lo ≤ b.lo) (h2 : b.hi ≤ a.hi) : holdsI a b = true := by
  unfold holdsI; rw [fine2.2 ⟨ha, hb⟩, decide_eq_true h1, decide_eq_true h2]; rfl
end Go.Iv
