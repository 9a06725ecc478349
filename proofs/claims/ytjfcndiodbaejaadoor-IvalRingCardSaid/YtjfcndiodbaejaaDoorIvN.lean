/-
  Intervals: plain laws of sums, parts, hulls, meets; the laws' own, with no program in sight.
-/
import Derived.Test.YtjfcndiodbaejaaDoorIvM
set_option maxRecDepth 100000
namespace Go.Iv
open Go Go.RowKit Go.Sx Go.Nm Go.Wd Go.Qt

theorem told_good {a : Iv} (h : (told a).bad = false) : fine a = true ∧ told a = a := by
  cases hf : fine a with
  | true => exact ⟨rfl, told_ok hf⟩
  | false => rw [told_no hf] at h; cases h
theorem add_good {a b : Iv} (h : (addI a b).bad = false) : fine a = true ∧ fine b = true ∧ fine (addI a b) = true ∧ addI a b = ⟨a.lo + b.lo, a.hi + b.hi, false⟩ := by
  unfold addI at *
  cases hf : fineL [a, b] with
  | false => rw [hf] at h; cases h
  | true =>
    rw [hf] at h
    obtain ⟨h1, h2⟩ := told_good h
    obtain ⟨g1, g2⟩ := fine2.1 hf
    refine ⟨g1, g2, ?_, h2⟩
    show fine (told _) = true
    rw [h2]; exact h1
theorem sub_good {a b : Iv} (h : (subI a b).bad = false) : fine a = true ∧ fine b = true ∧ fine (subI a b) = true ∧ subI a b = ⟨a.lo - b.hi, a.hi - b.lo, false⟩ := by
  unfold subI at *
  cases hf : fineL [a, b] with
  | false => rw [hf] at h; cases h
  | true =>
    rw [hf] at h
    obtain ⟨h1, h2⟩ := told_good h
    obtain ⟨g1, g2⟩ := fine2.1 hf
    refine ⟨g1, g2, ?_, h2⟩
    show fine (told _) = true
    rw [h2]; exact h1
theorem add_ok {a b : Iv} (ha : fine a = true) (hb : fine b = true) (h1 : -1152921504606846976 ≤ a.lo + b.lo) (h2 : a.hi + b.hi ≤ 1152921504606846976) : addI a b = ⟨a.lo + b.lo, a.hi + b.hi, false⟩ ∧ fine (addI a b) = true := by
  have ra := fine_iff.1 ha
  have rb := fine_iff.1 hb
  have hf : fine ⟨a.lo + b.lo, a.hi + b.hi, false⟩ = true := fine_iff.2 ⟨rfl, h1, by show a.lo + b.lo ≤ a.hi + b.hi; omega, h2⟩
  have e : addI a b = ⟨a.lo + b.lo, a.hi + b.hi, false⟩ := by
    unfold addI; rw [fine2.2 ⟨ha, hb⟩]; exact told_ok hf
  rw [e]
  exact ⟨rfl, hf⟩
theorem sub_ok {a b : Iv} (ha : fine a = true) (hb : fine b = true) (h1 : -1152921504606846976 ≤ a.lo - b.hi) (h2 : a.hi - b.lo ≤ 1152921504606846976) : subI a b = ⟨a.lo - b.hi, a.hi - b.lo, false⟩ ∧ fine (subI a b) = true := by
  have ra := fine_iff.1 ha
  have rb := fine_iff.1 hb
  have hf : fine ⟨a.lo - b.hi, a.hi - b.lo, false⟩ = true := fine_iff.2 ⟨rfl, h1, by show a.lo - b.hi ≤ a.hi - b.lo; omega, h2⟩
  have e : subI a b = ⟨a.lo - b.hi, a.hi - b.lo, false⟩ := by
    unfold subI; rw [fine2.2 ⟨ha, hb⟩]; exact told_ok hf
  rw [e]
  exact ⟨rfl, hf⟩
theorem neg_ok {a : Iv} (ha : fine a = true) : negI a = ⟨-a.hi, -a.lo, false⟩ ∧ fine (negI a) = true := by
  have ra := fine_iff.1 ha
  have hf : fine ⟨-a.hi, -a.lo, false⟩ = true := fine_iff.2 ⟨rfl, by show _ ≤ -a.hi; omega, by show -a.hi ≤ -a.lo; omega, by show -a.lo ≤ _; omega⟩
  have e : negI a = ⟨-a.hi, -a.lo, false⟩ := by
    unfold negI; rw [fine1, ha]; exact told_ok hf
  rw [e]
  exact ⟨rfl, hf⟩
theorem add_comm' (a b : Iv) : addI a b = addI b a := by
  unfold addI
  have : fineL [a, b] = fineL [b, a] := by rw [Bool.eq_iff_iff, fine2, fine2]; exact And.comm
  rw [this, Int.add_comm a.lo, Int.add_comm a.hi]
theorem neg_neg' {a : Iv} (ha : fine a = true) : negI (negI a) = a := by
  have h := neg_ok ha
  have h2 := neg_ok h.2
  rw [h2.1, h.1]
  have := (fine_iff.1 ha).1
  cases a
  simp_all
theorem sub_neg' {a b : Iv} (hb : fine b = true) : subI a b = addI a (negI b) := by
  have h := neg_ok hb
  have e : fineL [a, negI b] = fineL [a, b] := by
    rw [Bool.eq_iff_iff, fine2, fine2, h.2, hb]
  unfold subI addI
  rw [e, h.1]
  rfl

theorem holds_mk {a b : Iv} (ha : fine a = true) (hb : fine b = true) (h1 : a.lo ≤ b.lo) (h2 : b.hi ≤ a.hi) : holdsI a b = true := by
  unfold holdsI; rw [fine2.2 ⟨ha, hb⟩, decide_eq_true h1, decide_eq_true h2]; rfl
theorem add_mono {a h d : Iv} (ha : fine a = true) (h1 : h.lo ≤ a.lo) (h2 : a.hi ≤ h.hi) (hy : (addI h d).bad = false) : holdsI (addI h d) (addI a d) = true := by
  obtain ⟨fh, fd, fy, ey⟩ := add_good hy
  have ry := fine_iff.1 fy
  have ra := fine_iff.1 ha
  rw [ey] at ry
  have := ry.2
  simp only at this
  have hk := add_ok ha fd (by omega) (by omega)
  refine holds_mk fy hk.2 ?_ ?_
  · rw [ey, hk.1]; show h.lo + d.lo ≤ a.lo + d.lo; omega
  · rw [ey, hk.1]; show a.hi + d.hi ≤ h.hi + d.hi; omega
theorem sub_mono {a h d : Iv} (ha : fine a = true) (h1 : h.lo ≤ a.lo) (h2 : a.hi ≤ h.hi) (hy : (subI d h).bad = false) : holdsI (subI d h) (subI d a) = true := by
  obtain ⟨fd, fh, fy, ey⟩ := sub_good hy
  have ry := fine_iff.1 fy
  have ra := fine_iff.1 ha
  rw [ey] at ry
  have := ry.2
  simp only at this
  have hk := sub_ok fd ha (by omega) (by omega)
  refine holds_mk fy hk.2 ?_ ?_
  · rw [ey, hk.1]; show d.lo - h.hi ≤ d.lo - a.hi; omega
  · rw [ey, hk.1]; show d.hi - a.lo ≤ d.hi - h.lo; omega
theorem sub_add {a b : Iv} (ha : fine a = true) (h : (subI (addI a b) b).bad = false) : holdsI (subI (addI a b) b) a = true := by
  obtain ⟨f1, fb, fs, es⟩ := sub_good h
  obtain ⟨_, _, _, e1⟩ := add_good (fine_iff.1 f1).1
  have rb := fine_iff.1 fb
  rw [e1] at es
  refine holds_mk fs ha ?_ ?_
  · rw [e1, es]; show a.lo + b.lo - b.hi ≤ a.lo; omega
  · rw [e1, es]; show a.hi ≤ a.hi + b.hi - b.lo; omega
theorem distr {a b c : Iv} (hr : (addI (mulI a b) (mulI a c)).bad = false) (hl : (mulI a (addI b c)).bad = false) : holdsI (addI (mulI a b) (mulI a c)) (mulI a (addI b c)) = true := by
  obtain ⟨f1, f2, fr, er⟩ := add_good hr
  obtain ⟨_, _, _, m1⟩ := mul_good (fine_iff.1 f1).1
  obtain ⟨_, _, _, m2⟩ := mul_good (fine_iff.1 f2).1
  obtain ⟨_, fs, _, m3⟩ := mul_good hl
  obtain ⟨_, _, _, es⟩ := add_good (fine_iff.1 fs).1
  have l1 := cor_all (Q := fun p => (mulI a b).lo * 1073741824 ≤ p) |>.1 ((m1.lo _).1 (Int.le_refl _))
  have l2 := cor_all (Q := fun p => (mulI a c).lo * 1073741824 ≤ p) |>.1 ((m2.lo _).1 (Int.le_refl _))
  have u1 := cor_all (Q := fun p => p ≤ (mulI a b).hi * 1073741824) |>.1 ((m1.hi _).1 (Int.le_refl _))
  have u2 := cor_all (Q := fun p => p ≤ (mulI a c).hi * 1073741824) |>.1 ((m2.hi _).1 (Int.le_refl _))
  refine holds_mk fr m3.ok ?_ ?_
  · refine (m3.lo _).2 (cor_all (Q := fun p => (addI (mulI a b) (mulI a c)).lo * 1073741824 ≤ p) |>.2 ?_)
    rw [er, es]
    show ((mulI a b).lo + (mulI a c).lo) * 1073741824 ≤ a.lo * (b.lo + c.lo) ∧ ((mulI a b).lo + (mulI a c).lo) * 1073741824 ≤ a.lo * (b.hi + c.hi) ∧ ((mulI a b).lo + (mulI a c).lo) * 1073741824 ≤ a.hi * (b.lo + c.lo) ∧ ((mulI a b).lo + (mulI a c).lo) * 1073741824 ≤ a.hi * (b.hi + c.hi)
    simp only [Int.mul_add, Int.add_mul]
    omega
  · refine (m3.hi _).2 (cor_all (Q := fun p => p ≤ (addI (mulI a b) (mulI a c)).hi * 1073741824) |>.2 ?_)
    rw [er, es]
    show a.lo * (b.lo + c.lo) ≤ ((mulI a b).hi + (mulI a c).hi) * 1073741824 ∧ a.lo * (b.hi + c.hi) ≤ ((mulI a b).hi + (mulI a c).hi) * 1073741824 ∧ a.hi * (b.lo + c.lo) ≤ ((mulI a b).hi + (mulI a c).hi) * 1073741824 ∧ a.hi * (b.hi + c.hi) ≤ ((mulI a b).hi + (mulI a c).hi) * 1073741824
    simp only [Int.mul_add, Int.add_mul]
    omega

/-! ### Parts -/
theorem fq_between {x1 x2 x n d L : Int} (hd : d ≠ 0) (h1 : x1 ≤ x) (h2 : x ≤ x2) (k1 : L ≤ fq (x1 * n) d) (k2 : L ≤ fq (x2 * n) d) : L ≤ fq (x * n) d := by
  have key : ∀ {m D : Int}, 0 < D → L ≤ fq (x1 * m) D → L ≤ fq (x2 * m) D → L ≤ fq (x * m) D := fun {m D} hD g1 g2 => by
    rw [le_fq hD] at g1 g2 ⊢
    have := lin_ge (c := m) h1 h2 (by rw [Int.mul_comm m]; exact g1) (by rw [Int.mul_comm m]; exact g2)
    rw [Int.mul_comm x]; exact this
  rcases Int.lt_or_gt_of_ne hd with hd | hd
  · have e : ∀ z, fq (z * n) d = fq (z * -n) (-d) := fun z => by rw [(fq_flip hd).1, Int.mul_neg]
    rw [e x]
    exact key (by omega) (by rw [← e]; exact k1) (by rw [← e]; exact k2)
  · exact key hd k1 k2
theorem cq_between {x1 x2 x n d U : Int} (hd : d ≠ 0) (h1 : x1 ≤ x) (h2 : x ≤ x2) (k1 : cq (x1 * n) d ≤ U) (k2 : cq (x2 * n) d ≤ U) : cq (x * n) d ≤ U := by
  have key : ∀ {m D : Int}, 0 < D → cq (x1 * m) D ≤ U → cq (x2 * m) D ≤ U → cq (x * m) D ≤ U := fun {m D} hD g1 g2 => by
    rw [cq_le hD] at g1 g2 ⊢
    have := lin_le (c := m) h1 h2 (by rw [Int.mul_comm m]; exact g1) (by rw [Int.mul_comm m]; exact g2)
    rw [Int.mul_comm x]; exact this
  rcases Int.lt_or_gt_of_ne hd with hd | hd
  · have e : ∀ z, cq (z * n) d = cq (z * -n) (-d) := fun z => by rw [(fq_flip hd).2, Int.mul_neg]
    rw [e x]
    exact key (by omega) (by rw [← e]; exact k1) (by rw [← e]; exact k2)
  · exact key hd k1 k2
end Go.Iv
