/-
  Chapter 21: what a whole number is, may, wakes. Printed by orC.py.
-/
import Derived.Test.YthadbpnapbmppaaGreatDoorOrB
import Derived.Test.YthadbpnapbmppaaGreatDoorOrD
import Derived.Test.YthadbpnapbmppaaGreatDoorRf5
set_option maxRecDepth 100000
namespace Go.Or
open Go Go.RowKit Go.Sx Go.Nm Go.Wd Go.Qt Go.Iv Go.An Go.Wv Go.Nv Go.Ke Go.Proofs
theorem nq_tie {s D : Int} (h : 0 < D) : (2 * s = (2 * nq s D + 1) * D → nq s D < 0) ∧ (2 * s = (2 * nq s D - 1) * D → 0 < nq s D) := by
  obtain ⟨e, r0, r1⟩ := He.fq_rest (a := s) h
  have hb : cmp3 D 0 = 1 := by unfold cmp3; omega
  have c : nc s D = cmp3 (fr s D) (D - fr s D) := by unfold nc; rw [hb, Int.mul_one]
  unfold nq
  rw [c]
  generalize fq s D = q at *
  generalize fr s D = r at *
  subst e
  have e1 : (2 * (q + 1) + 1) * D = 2 * (D * q) + 3 * D := by grind
  have e2 : (2 * (q + 1) - 1) * D = 2 * (D * q) + D := by grind
  have e3 : (2 * q + 1) * D = 2 * (D * q) + D := by grind
  have e4 : (2 * q - 1) * D = 2 * (D * q) - D := by grind
  by_cases hc : cmp3 r (D - r) > 0 ∨ cmp3 r (D - r) = 0 ∧ 0 ≤ q
  · rw [if_pos hc, e1, e2]
    refine ⟨fun g => by omega, fun g => ?_⟩
    have : cmp3 r (D - r) = 0 := by unfold cmp3; omega
    omega
  · rw [if_neg hc, e3, e4]
    refine ⟨fun g => ?_, fun g => by omega⟩
    have : cmp3 r (D - r) = 0 := by unfold cmp3; omega
    omega
structure Wh (i : Iv) : Prop where
  b : -1073741824 ≤ whN i ∧ whN i ≤ 1073741824
  l : -1073741824 ≤ i.lo + i.hi - 2 * whN i * 1073741824
  u : i.lo + i.hi - 2 * whN i * 1073741824 ≤ 1073741824
  t1 : i.lo + i.hi - 2 * whN i * 1073741824 = 1073741824 → whN i < 0
  t2 : i.lo + i.hi - 2 * whN i * 1073741824 = -1073741824 → 0 < whN i
  r0 : 0 ≤ whR i
  r1 : whN i * 1073741824 - i.lo ≤ whR i * 1073741824
  r2 : i.hi - whN i * 1073741824 ≤ whR i * 1073741824
  r3 : whR i = 0 ∨ (whR i - 1) * 1073741824 < whN i * 1073741824 - i.lo ∨ (whR i - 1) * 1073741824 < i.hi - whN i * 1073741824
  r4 : whR i ≤ 2147483648
theorem wh {i : Iv} (f : fine i = true) : Wh i := by
  have ri := fine_iff.1 f
  have w1 : IntKind.i64.wrap (i.lo + i.hi) = i.lo + i.hi := Iv.wr (by omega) (by omega)
  have nb := He.nq_in (S := i.lo + i.hi) (D := 2147483648) (M := 1073741824) (by decide) (by omega)
  have n2 := He.nq_two (a := i.lo + i.hi) (b := 2147483648) (by decide)
  have nt := nq_tie (s := i.lo + i.hi) (D := 2147483648) (by decide)
  have en : whN i = nq (i.lo + i.hi) 2147483648 := by
    unfold whN nW
    rw [fine1, f, w1]
    show Qt.iv (i.lo + i.hi) 1 2147483648 = _
    have ei : ie (i.lo + i.hi) 1 2147483648 = 0 := by
      unfold ie
      rw [if_neg (by decide), Int.mul_one, if_pos]
      unfold i64B
      rw [decide_eq_true (by omega), decide_eq_true (by omega)]; rfl
    unfold Qt.iv
    rw [if_pos ei, Int.mul_one]
  have ew : nW i = whN i := by unfold whN; rw [fine1, f]; rfl
  rw [← en] at nb n2 nt
  have fw : farW i = mx (whN i * 1073741824 - i.lo) (i.hi - whN i * 1073741824) := by
    unfold farW
    rw [ew, Iv.wr (n := whN i * 1073741824) (by omega) (by omega), Iv.wr (by omega) (by omega), Iv.wr (by omega) (by omega)]
  have f1 := mx_le.1 (Int.le_of_eq fw.symm)
  have f2 : farW i = whN i * 1073741824 - i.lo ∨ farW i = i.hi - whN i * 1073741824 := by
    rw [fw]; unfold mx; split
    · exact .inr rfl
    · exact .inl rfl
  have er : whR i = if farW i > 0 then (farW i - 1) / 1073741824 + 1 else 0 := by
    unfold whR
    rw [fine1, f]
    show (bif decide (farW i > 0) then _ else 0) = _
    by_cases h : farW i > 0
    · rw [decide_eq_true h, if_pos h, cond_true, Iv.wr (n := farW i - 1) (by omega) (by omega), Int.tdiv_eq_ediv_of_nonneg (by omega)]
      rw [Iv.wr (n := (farW i - 1) / 1073741824) (by omega) (by omega), Iv.wr (by omega) (by omega)]
    · rw [decide_eq_false h, if_neg h]; rfl
  refine ⟨nb, by omega, by omega, fun g => nt.1 (by omega), fun g => nt.2 (by omega), ?_, ?_, ?_, ?_, ?_⟩ <;> rw [er] <;> split <;> omega
noncomputable def E1 : Env P := ⟨⟨[], [rFine]⟩, [], 20, []⟩
def moV : List Value → Value
  | [.int _ a, .int _ e, .int _ m] => .bool (plO a e m)
  | _ => undef
theorem m2 {m : Int} (h1 : m ≥ 0) (h2 : m ≤ 3221225472) : IntKind.i64.wrap (IntKind.i64.wrap (m + 1073741824) - (IntKind.i64.wrap (m - 1073741824))) = 2147483648 := by
  rw [Iv.wr (n := m + 1073741824) (by omega) (by omega), Iv.wr (n := m - 1073741824) (by omega) (by omega), Iv.wr (by omega) (by omega)]; omega
theorem mo0_run (a e m : Int) : runF P E1 3 37 [.int .i64 a, .int .i64 e, .int .i64 m] (.b true :: (.b true :: (.b true :: (.b false :: (.lit :: (.lit :: (.lit :: (.b true :: (.lit :: (.lit :: (.b true :: (.lit :: (.b true :: (.lit :: (.b true :: (.b true :: [])))))))))))))))) =
  some (.bool true, [(decide (m ≥ 0)) = true, (decide (m ≤ 3221225472)) = true, (decide (e ≥ 0)) = true, (!(decide (e ≤ 966367641))) = false, (decide (IntKind.i64.wrap (IntKind.i64.wrap (m + 1073741824) - (IntKind.i64.wrap (m - 1073741824))) > 1)) = true, (decide (IntKind.i64.wrap (IntKind.i64.wrap (m + 1073741824) - (IntKind.i64.wrap (m - 1073741824))) > 1)) = true, (!(decide (IntKind.i64.wrap (IntKind.i64.wrap (m + 1073741824) - (IntKind.i64.wrap (m - 1073741824))) ≤ 1))) = true, (decide (a ≥ 1)) = true, (decide (a ≤ 262144)) = true]) := by kernel_rfl
theorem mo0_leaf (a e m : Int)  (q0 : (decide (m ≥ 0)) = true) (q1 : (decide (m ≤ 3221225472)) = true) (q2 : (decide (e ≥ 0)) = true) (q3 : (decide (e ≤ 966367641)) = true) (q4 : (decide (IntKind.i64.wrap (IntKind.i64.wrap (m + 1073741824) - (IntKind.i64.wrap (m - 1073741824))) > 1)) = true) (q5 : (decide (IntKind.i64.wrap (IntKind.i64.wrap (m + 1073741824) - (IntKind.i64.wrap (m - 1073741824))) ≤ 1)) = false) (q6 : (decide (a ≥ 1)) = true) (q7 : (decide (a ≤ 262144)) = true) : Gives P 37 #[.int .i64 a, .int .i64 e, .int .i64 m] (.bool (plO a e m)) := by
  have R := mo0_run a e m
  refine gives_of_run mo R (ps_cons q0 (ps_cons q1 (ps_cons q2 (ps_cons (neg_f q3) (ps_cons q4 (ps_cons q4 (ps_cons (neg_t q5) (ps_cons q6 (ps_cons q7 ps_nil))))))))) ?_
  unfold plO mB
  rw [q0, q1, q2, q3, q6, q7]
  first | rfl | simp
theorem mo1_run (a e m : Int) : runF P E1 3 37 [.int .i64 a, .int .i64 e, .int .i64 m] (.b false :: (lits 5 (.b true :: (.b true :: [])))) =
  some (.bool false, [(decide (m ≥ 0)) = false, (decide (a ≥ 1)) = true, (decide (a ≤ 262144)) = true]) := by kernel_rfl
theorem mo1_leaf (a e m : Int)  (q0 : (decide (m ≥ 0)) = false) (q1 : (decide (a ≥ 1)) = true) (q2 : (decide (a ≤ 262144)) = true) : Gives P 37 #[.int .i64 a, .int .i64 e, .int .i64 m] (.bool (plO a e m)) := by
  have R := mo1_run a e m
  refine gives_of_run mo R (ps_cons q0 (ps_cons q1 (ps_cons q2 ps_nil))) ?_
  unfold plO mB
  rw [q0, q1, q2]
  first | rfl | simp
theorem mo2_run (a e m : Int) : runF P E1 3 37 [.int .i64 a, .int .i64 e, .int .i64 m] (.b false :: (lits 5 (.b false :: []))) =
  some (.bool false, [(decide (m ≥ 0)) = false, (decide (a ≥ 1)) = false]) := by kernel_rfl
theorem mo2_leaf (a e m : Int)  (q0 : (decide (m ≥ 0)) = false) (q1 : (decide (a ≥ 1)) = false) : Gives P 37 #[.int .i64 a, .int .i64 e, .int .i64 m] (.bool (plO a e m)) := by
  have R := mo2_run a e m
  refine gives_of_run mo R (ps_cons q0 (ps_cons q1 ps_nil)) ?_
  unfold plO mB
  rw [q0, q1]
  first | rfl | simp
theorem mo3_run (a e m : Int) : runF P E1 3 37 [.int .i64 a, .int .i64 e, .int .i64 m] (.b false :: (lits 5 (.b true :: (.b false :: [])))) =
  some (.bool false, [(decide (m ≥ 0)) = false, (decide (a ≥ 1)) = true, (decide (a ≤ 262144)) = false]) := by kernel_rfl
theorem mo3_leaf (a e m : Int)  (q0 : (decide (m ≥ 0)) = false) (q1 : (decide (a ≥ 1)) = true) (q2 : (decide (a ≤ 262144)) = false) : Gives P 37 #[.int .i64 a, .int .i64 e, .int .i64 m] (.bool (plO a e m)) := by
  have R := mo3_run a e m
  refine gives_of_run mo R (ps_cons q0 (ps_cons q1 (ps_cons q2 ps_nil))) ?_
  unfold plO mB
  rw [q0, q1, q2]
  first | rfl | simp
theorem mo4_run (a e m : Int) : runF P E1 3 37 [.int .i64 a, .int .i64 e, .int .i64 m] (.b true :: (.b false :: (lits 4 (.b true :: (.b true :: []))))) =
  some (.bool false, [(decide (m ≥ 0)) = true, (decide (m ≤ 3221225472)) = false, (decide (a ≥ 1)) = true, (decide (a ≤ 262144)) = true]) := by kernel_rfl
theorem mo4_leaf (a e m : Int)  (q0 : (decide (m ≥ 0)) = true) (q1 : (decide (m ≤ 3221225472)) = false) (q2 : (decide (a ≥ 1)) = true) (q3 : (decide (a ≤ 262144)) = true) : Gives P 37 #[.int .i64 a, .int .i64 e, .int .i64 m] (.bool (plO a e m)) := by
  have R := mo4_run a e m
  refine gives_of_run mo R (ps_cons q0 (ps_cons q1 (ps_cons q2 (ps_cons q3 ps_nil)))) ?_
  unfold plO mB
  rw [q0, q1, q2, q3]
  first | rfl | simp
theorem mo5_run (a e m : Int) : runF P E1 3 37 [.int .i64 a, .int .i64 e, .int .i64 m] (.b true :: (.b false :: (lits 4 (.b false :: [])))) =
  some (.bool false, [(decide (m ≥ 0)) = true, (decide (m ≤ 3221225472)) = false, (decide (a ≥ 1)) = false]) := by kernel_rfl
theorem mo5_leaf (a e m : Int)  (q0 : (decide (m ≥ 0)) = true) (q1 : (decide (m ≤ 3221225472)) = false) (q2 : (decide (a ≥ 1)) = false) : Gives P 37 #[.int .i64 a, .int .i64 e, .int .i64 m] (.bool (plO a e m)) := by
  have R := mo5_run a e m
  refine gives_of_run mo R (ps_cons q0 (ps_cons q1 (ps_cons q2 ps_nil))) ?_
  unfold plO mB
  rw [q0, q1, q2]
  first | rfl | simp
theorem mo6_run (a e m : Int) : runF P E1 3 37 [.int .i64 a, .int .i64 e, .int .i64 m] (.b true :: (.b false :: (lits 4 (.b true :: (.b false :: []))))) =
  some (.bool false, [(decide (m ≥ 0)) = true, (decide (m ≤ 3221225472)) = false, (decide (a ≥ 1)) = true, (decide (a ≤ 262144)) = false]) := by kernel_rfl
theorem mo6_leaf (a e m : Int)  (q0 : (decide (m ≥ 0)) = true) (q1 : (decide (m ≤ 3221225472)) = false) (q2 : (decide (a ≥ 1)) = true) (q3 : (decide (a ≤ 262144)) = false) : Gives P 37 #[.int .i64 a, .int .i64 e, .int .i64 m] (.bool (plO a e m)) := by
  have R := mo6_run a e m
  refine gives_of_run mo R (ps_cons q0 (ps_cons q1 (ps_cons q2 (ps_cons q3 ps_nil)))) ?_
  unfold plO mB
  rw [q0, q1, q2, q3]
  first | rfl | simp
theorem mo7_run (a e m : Int) : runF P E1 3 37 [.int .i64 a, .int .i64 e, .int .i64 m] (.b true :: (.b true :: (.b false :: (.lit :: (.lit :: (.lit :: (.b true :: (.b true :: [])))))))) =
  some (.bool false, [(decide (m ≥ 0)) = true, (decide (m ≤ 3221225472)) = true, (decide (e ≥ 0)) = false, (decide (a ≥ 1)) = true, (decide (a ≤ 262144)) = true]) := by kernel_rfl
theorem mo7_leaf (a e m : Int)  (q0 : (decide (m ≥ 0)) = true) (q1 : (decide (m ≤ 3221225472)) = true) (q2 : (decide (e ≥ 0)) = false) (q3 : (decide (a ≥ 1)) = true) (q4 : (decide (a ≤ 262144)) = true) : Gives P 37 #[.int .i64 a, .int .i64 e, .int .i64 m] (.bool (plO a e m)) := by
  have R := mo7_run a e m
  refine gives_of_run mo R (ps_cons q0 (ps_cons q1 (ps_cons q2 (ps_cons q3 (ps_cons q4 ps_nil))))) ?_
  unfold plO mB
  rw [q0, q1, q2, q3, q4]
  first | rfl | simp
theorem mo8_run (a e m : Int) : runF P E1 3 37 [.int .i64 a, .int .i64 e, .int .i64 m] (.b true :: (.b true :: (.b false :: (.lit :: (.lit :: (.lit :: (.b false :: []))))))) =
  some (.bool false, [(decide (m ≥ 0)) = true, (decide (m ≤ 3221225472)) = true, (decide (e ≥ 0)) = false, (decide (a ≥ 1)) = false]) := by kernel_rfl
theorem mo8_leaf (a e m : Int)  (q0 : (decide (m ≥ 0)) = true) (q1 : (decide (m ≤ 3221225472)) = true) (q2 : (decide (e ≥ 0)) = false) (q3 : (decide (a ≥ 1)) = false) : Gives P 37 #[.int .i64 a, .int .i64 e, .int .i64 m] (.bool (plO a e m)) := by
  have R := mo8_run a e m
  refine gives_of_run mo R (ps_cons q0 (ps_cons q1 (ps_cons q2 (ps_cons q3 ps_nil)))) ?_
  unfold plO mB
  rw [q0, q1, q2, q3]
  first | rfl | simp
theorem mo9_run (a e m : Int) : runF P E1 3 37 [.int .i64 a, .int .i64 e, .int .i64 m] (.b true :: (.b true :: (.b false :: (.lit :: (.lit :: (.lit :: (.b true :: (.b false :: [])))))))) =
  some (.bool false, [(decide (m ≥ 0)) = true, (decide (m ≤ 3221225472)) = true, (decide (e ≥ 0)) = false, (decide (a ≥ 1)) = true, (decide (a ≤ 262144)) = false]) := by kernel_rfl
theorem mo9_leaf (a e m : Int)  (q0 : (decide (m ≥ 0)) = true) (q1 : (decide (m ≤ 3221225472)) = true) (q2 : (decide (e ≥ 0)) = false) (q3 : (decide (a ≥ 1)) = true) (q4 : (decide (a ≤ 262144)) = false) : Gives P 37 #[.int .i64 a, .int .i64 e, .int .i64 m] (.bool (plO a e m)) := by
  have R := mo9_run a e m
  refine gives_of_run mo R (ps_cons q0 (ps_cons q1 (ps_cons q2 (ps_cons q3 (ps_cons q4 ps_nil))))) ?_
  unfold plO mB
  rw [q0, q1, q2, q3, q4]
  first | rfl | simp
theorem mo10_run (a e m : Int) : runF P E1 3 37 [.int .i64 a, .int .i64 e, .int .i64 m] (.b true :: (.b true :: (.b true :: (.b true :: (.lit :: (.lit :: (.b true :: (.b true :: [])))))))) =
  some (.bool false, [(decide (m ≥ 0)) = true, (decide (m ≤ 3221225472)) = true, (decide (e ≥ 0)) = true, (!(decide (e ≤ 966367641))) = true, (decide (a ≥ 1)) = true, (decide (a ≤ 262144)) = true]) := by kernel_rfl
theorem mo10_leaf (a e m : Int)  (q0 : (decide (m ≥ 0)) = true) (q1 : (decide (m ≤ 3221225472)) = true) (q2 : (decide (e ≥ 0)) = true) (q3 : (decide (e ≤ 966367641)) = false) (q4 : (decide (a ≥ 1)) = true) (q5 : (decide (a ≤ 262144)) = true) : Gives P 37 #[.int .i64 a, .int .i64 e, .int .i64 m] (.bool (plO a e m)) := by
  have R := mo10_run a e m
  refine gives_of_run mo R (ps_cons q0 (ps_cons q1 (ps_cons q2 (ps_cons (neg_t q3) (ps_cons q4 (ps_cons q5 ps_nil)))))) ?_
  unfold plO mB
  rw [q0, q1, q2, q3, q4, q5]
  first | rfl | simp
theorem mo11_run (a e m : Int) : runF P E1 3 37 [.int .i64 a, .int .i64 e, .int .i64 m] (.b true :: (.b true :: (.b true :: (.b true :: (.lit :: (.lit :: (.b false :: []))))))) =
  some (.bool false, [(decide (m ≥ 0)) = true, (decide (m ≤ 3221225472)) = true, (decide (e ≥ 0)) = true, (!(decide (e ≤ 966367641))) = true, (decide (a ≥ 1)) = false]) := by kernel_rfl
theorem mo11_leaf (a e m : Int)  (q0 : (decide (m ≥ 0)) = true) (q1 : (decide (m ≤ 3221225472)) = true) (q2 : (decide (e ≥ 0)) = true) (q3 : (decide (e ≤ 966367641)) = false) (q4 : (decide (a ≥ 1)) = false) : Gives P 37 #[.int .i64 a, .int .i64 e, .int .i64 m] (.bool (plO a e m)) := by
  have R := mo11_run a e m
  refine gives_of_run mo R (ps_cons q0 (ps_cons q1 (ps_cons q2 (ps_cons (neg_t q3) (ps_cons q4 ps_nil))))) ?_
  unfold plO mB
  rw [q0, q1, q2, q3, q4]
  first | rfl | simp
theorem mo12_run (a e m : Int) : runF P E1 3 37 [.int .i64 a, .int .i64 e, .int .i64 m] (.b true :: (.b true :: (.b true :: (.b true :: (.lit :: (.lit :: (.b true :: (.b false :: [])))))))) =
  some (.bool false, [(decide (m ≥ 0)) = true, (decide (m ≤ 3221225472)) = true, (decide (e ≥ 0)) = true, (!(decide (e ≤ 966367641))) = true, (decide (a ≥ 1)) = true, (decide (a ≤ 262144)) = false]) := by kernel_rfl
theorem mo12_leaf (a e m : Int)  (q0 : (decide (m ≥ 0)) = true) (q1 : (decide (m ≤ 3221225472)) = true) (q2 : (decide (e ≥ 0)) = true) (q3 : (decide (e ≤ 966367641)) = false) (q4 : (decide (a ≥ 1)) = true) (q5 : (decide (a ≤ 262144)) = false) : Gives P 37 #[.int .i64 a, .int .i64 e, .int .i64 m] (.bool (plO a e m)) := by
  have R := mo12_run a e m
  refine gives_of_run mo R (ps_cons q0 (ps_cons q1 (ps_cons q2 (ps_cons (neg_t q3) (ps_cons q4 (ps_cons q5 ps_nil)))))) ?_
  unfold plO mB
  rw [q0, q1, q2, q3, q4, q5]
  first | rfl | simp
theorem mo13_run (a e m : Int) : runF P E1 3 37 [.int .i64 a, .int .i64 e, .int .i64 m] (.b true :: (.b true :: (.b true :: (.b false :: (.lit :: (.lit :: (.lit :: (.b true :: (.lit :: (.lit :: (.b true :: (.lit :: (.b true :: (.lit :: (.b false :: []))))))))))))))) =
  some (.bool false, [(decide (m ≥ 0)) = true, (decide (m ≤ 3221225472)) = true, (decide (e ≥ 0)) = true, (!(decide (e ≤ 966367641))) = false, (decide (IntKind.i64.wrap (IntKind.i64.wrap (m + 1073741824) - (IntKind.i64.wrap (m - 1073741824))) > 1)) = true, (decide (IntKind.i64.wrap (IntKind.i64.wrap (m + 1073741824) - (IntKind.i64.wrap (m - 1073741824))) > 1)) = true, (!(decide (IntKind.i64.wrap (IntKind.i64.wrap (m + 1073741824) - (IntKind.i64.wrap (m - 1073741824))) ≤ 1))) = true, (decide (a ≥ 1)) = false]) := by kernel_rfl
theorem mo13_leaf (a e m : Int)  (q0 : (decide (m ≥ 0)) = true) (q1 : (decide (m ≤ 3221225472)) = true) (q2 : (decide (e ≥ 0)) = true) (q3 : (decide (e ≤ 966367641)) = true) (q4 : (decide (IntKind.i64.wrap (IntKind.i64.wrap (m + 1073741824) - (IntKind.i64.wrap (m - 1073741824))) > 1)) = true) (q5 : (decide (IntKind.i64.wrap (IntKind.i64.wrap (m + 1073741824) - (IntKind.i64.wrap (m - 1073741824))) ≤ 1)) = false) (q6 : (decide (a ≥ 1)) = false) : Gives P 37 #[.int .i64 a, .int .i64 e, .int .i64 m] (.bool (plO a e m)) := by
  have R := mo13_run a e m
  refine gives_of_run mo R (ps_cons q0 (ps_cons q1 (ps_cons q2 (ps_cons (neg_f q3) (ps_cons q4 (ps_cons q4 (ps_cons (neg_t q5) (ps_cons q6 ps_nil)))))))) ?_
  unfold plO mB
  rw [q0, q1, q2, q3, q6]
  first | rfl | simp
theorem mo14_run (a e m : Int) : runF P E1 3 37 [.int .i64 a, .int .i64 e, .int .i64 m] (.b true :: (.b true :: (.b true :: (.b false :: (.lit :: (.lit :: (.lit :: (.b true :: (.lit :: (.lit :: (.b true :: (.lit :: (.b true :: (.lit :: (.b true :: (.b false :: [])))))))))))))))) =
  some (.bool false, [(decide (m ≥ 0)) = true, (decide (m ≤ 3221225472)) = true, (decide (e ≥ 0)) = true, (!(decide (e ≤ 966367641))) = false, (decide (IntKind.i64.wrap (IntKind.i64.wrap (m + 1073741824) - (IntKind.i64.wrap (m - 1073741824))) > 1)) = true, (decide (IntKind.i64.wrap (IntKind.i64.wrap (m + 1073741824) - (IntKind.i64.wrap (m - 1073741824))) > 1)) = true, (!(decide (IntKind.i64.wrap (IntKind.i64.wrap (m + 1073741824) - (IntKind.i64.wrap (m - 1073741824))) ≤ 1))) = true, (decide (a ≥ 1)) = true, (decide (a ≤ 262144)) = false]) := by kernel_rfl
theorem mo14_leaf (a e m : Int)  (q0 : (decide (m ≥ 0)) = true) (q1 : (decide (m ≤ 3221225472)) = true) (q2 : (decide (e ≥ 0)) = true) (q3 : (decide (e ≤ 966367641)) = true) (q4 : (decide (IntKind.i64.wrap (IntKind.i64.wrap (m + 1073741824) - (IntKind.i64.wrap (m - 1073741824))) > 1)) = true) (q5 : (decide (IntKind.i64.wrap (IntKind.i64.wrap (m + 1073741824) - (IntKind.i64.wrap (m - 1073741824))) ≤ 1)) = false) (q6 : (decide (a ≥ 1)) = true) (q7 : (decide (a ≤ 262144)) = false) : Gives P 37 #[.int .i64 a, .int .i64 e, .int .i64 m] (.bool (plO a e m)) := by
  have R := mo14_run a e m
  refine gives_of_run mo R (ps_cons q0 (ps_cons q1 (ps_cons q2 (ps_cons (neg_f q3) (ps_cons q4 (ps_cons q4 (ps_cons (neg_t q5) (ps_cons q6 (ps_cons q7 ps_nil))))))))) ?_
  unfold plO mB
  rw [q0, q1, q2, q3, q6, q7]
  first | rfl | simp
theorem mo_gives (args : List Value) (h : i3P args) : Gives P 37 args.toArray ((moV) args) := by
  unfold i3P at h
  split at h
  · rename_i a e m
    clear h
    show Gives P _ #[.int .i64 a, .int .i64 e, .int .i64 m] (.bool (plO a e m))
    cases q0 : (decide (m ≥ 0)) with
    | true =>
      cases q1 : (decide (m ≤ 3221225472)) with
      | true =>
        cases q2 : (decide (e ≥ 0)) with
        | true =>
          cases q3 : (decide (e ≤ 966367641)) with
          | true =>
            have q4 : (decide (IntKind.i64.wrap (IntKind.i64.wrap (m + 1073741824) - (IntKind.i64.wrap (m - 1073741824))) > 1)) = true := (decide_eq_true (by rw [m2 (of_decide_eq_true q0) (of_decide_eq_true q1)]; decide))
            have q5 : (decide (IntKind.i64.wrap (IntKind.i64.wrap (m + 1073741824) - (IntKind.i64.wrap (m - 1073741824))) ≤ 1)) = false := (decide_eq_false (by rw [m2 (of_decide_eq_true q0) (of_decide_eq_true q1)]; decide))
            cases q6 : (decide (a ≥ 1)) with
            | true =>
              cases q7 : (decide (a ≤ 262144)) with
              | true =>
                exact mo0_leaf a e m  q0 q1 q2 q3 q4 q5 q6 q7
              | false =>
                exact mo14_leaf a e m  q0 q1 q2 q3 q4 q5 q6 q7
            | false =>
              exact mo13_leaf a e m  q0 q1 q2 q3 q4 q5 q6
          | false =>
            cases q4 : (decide (a ≥ 1)) with
            | true =>
              cases q5 : (decide (a ≤ 262144)) with
              | true =>
                exact mo10_leaf a e m  q0 q1 q2 q3 q4 q5
              | false =>
                exact mo12_leaf a e m  q0 q1 q2 q3 q4 q5
            | false =>
              exact mo11_leaf a e m  q0 q1 q2 q3 q4
        | false =>
          cases q3 : (decide (a ≥ 1)) with
          | true =>
            cases q4 : (decide (a ≤ 262144)) with
            | true =>
              exact mo7_leaf a e m  q0 q1 q2 q3 q4
            | false =>
              exact mo9_leaf a e m  q0 q1 q2 q3 q4
          | false =>
            exact mo8_leaf a e m  q0 q1 q2 q3
      | false =>
        cases q2 : (decide (a ≥ 1)) with
        | true =>
          cases q3 : (decide (a ≤ 262144)) with
          | true =>
            exact mo4_leaf a e m  q0 q1 q2 q3
          | false =>
            exact mo6_leaf a e m  q0 q1 q2 q3
        | false =>
          exact mo5_leaf a e m  q0 q1 q2
    | false =>
      cases q1 : (decide (a ≥ 1)) with
      | true =>
        cases q2 : (decide (a ≤ 262144)) with
        | true =>
          exact mo1_leaf a e m  q0 q1 q2
        | false =>
          exact mo3_leaf a e m  q0 q1 q2
      | false =>
        exact mo2_leaf a e m  q0 q1
  · exact h.elim
noncomputable def oMay : Ctr P := ⟨37, i3P, moV, mo_gives⟩
def wakesP : List Value → Prop
  | [] => True
  | _ => False
def wakesV : List Value → Value
  | [] => .bool true
  | _ => undef
noncomputable def EW : Env P := ⟨⟨orbC ++ R5.rf5C, [rFine]⟩, [], 30, []⟩
theorem so_0 : soI 0 0 40 = ⟨-1, 1, false⟩ := by
  rw [(so40 (m := 0) (e := 0) rfl).i, (circle (m := 0) (by decide) (by decide)).1, (circle (m := 0) (by decide) (by decide)).2]; rfl
theorem at_0 : atX 1000 0 0 = 1000 ∧ atY 1000 0 0 = 0 ∧ 0 ≤ atR 1000 0 0 ∧ atR 1000 0 0 ≤ 1 := by
  have x : xI 1000 0 0 = partI (subI (waveI true ⟨-1, 1, false⟩) (pointI 0)) 1000 1 := by unfold xI; rw [so_0]; rfl
  have y : yI 1000 0 0 = partI (mulI (smI 0) (waveI false ⟨-1, 1, false⟩)) 1000 1 := by unfold yI; rw [so_0]; rfl
  unfold atX atY atR
  rw [x, y]
  decide +kernel
theorem wakes_run : runF P EW 4 25 [] (lits 5 (.b false :: (.lit :: (.lit :: (.b false :: (.lit :: (.lit :: (.b false :: (.lit :: (.lit :: (.b false :: (.lit :: (.b true :: (.b true :: (.b true :: (.b true :: (.b true :: (.b true :: (.b true :: (.b true :: (.lit :: (.lit :: (.b true :: (.b true :: [])))))))))))))))))))))))) = some (.bool (smE (-1) == 2), [i3P [.int .i64 1000, .int .i64 0, .int .i64 0], i3P [.int .i64 0, .int .i64 0, .int .i64 0], iP1 [I (⟨268435456, 2147483648, false⟩)], i3P [.int .i64 1000, .int .i64 0, .int .i64 0], (plE 1000 0 0 != 0) = false, 0 < 1000000, (plE 1000 0 0 != 0) = false, i3P [.int .i64 1000, .int .i64 0, .int .i64 0], (plE 1000 0 0 != 0) = false, 1 < 1000000, (plE 1000 0 0 != 0) = false, nP1 [.int .i64 0], nP1 [.int .i64 (-1)], ((atX 1000 0 0 == 1000) && ((atY 1000 0 0 == 0) && true)) = true, (decide (atR 1000 0 0 ≤ 1)) = true, (decide (atR 1000 0 0 ≥ 0)) = true, (plE 1000 0 0 == 0) = true, (plE 0 0 0 == 2) = true, (whN (⟨268435456, 2147483648, false⟩) == 1) = true, (whR (⟨268435456, 2147483648, false⟩) == 1) = true, (fineL [⟨268435456, 2147483648, false⟩]) = true, nP1 [.int .i64 1], iP2 [I (smI 0), I (ofI 1)], (holdsI (smI 0) (ofI 1)) = true, (smE 0 == 0) = true]) := by kernel_rfl
theorem wakes_gives (args : List Value) (h : wakesP args) : Gives P 25 args.toArray (wakesV args) := by
  unfold wakesP at h
  split at h
  · exact gives_of_run mo wakes_run (ps_cons ⟨(by unfold I64; decide), (by unfold I64; decide), (by unfold I64; decide)⟩ (ps_cons ⟨(by unfold I64; decide), (by unfold I64; decide), (by unfold I64; decide)⟩ (ps_cons ⟨_, rfl⟩ (ps_cons ⟨(by unfold I64; decide), (by unfold I64; decide), (by unfold I64; decide)⟩ (ps_cons (by decide +kernel) (ps_cons (by decide) (ps_cons (by decide +kernel) (ps_cons ⟨(by unfold I64; decide), (by unfold I64; decide), (by unfold I64; decide)⟩ (ps_cons (by decide +kernel) (ps_cons (by decide) (ps_cons (by decide +kernel) (ps_cons (by unfold nP1 I64; decide) (ps_cons (by unfold nP1 I64; decide) (ps_cons (by rw [at_0.1, at_0.2.1]; rfl) (ps_cons (decide_eq_true at_0.2.2.2) (ps_cons (decide_eq_true at_0.2.2.1) (ps_cons (by decide +kernel) (ps_cons (by decide +kernel) (ps_cons (by decide +kernel) (ps_cons (by decide +kernel) (ps_cons (by decide +kernel) (ps_cons (by unfold nP1 I64; decide) (ps_cons ⟨⟨_, rfl⟩, _, rfl⟩ (ps_cons (by decide +kernel) (ps_cons (by decide +kernel) ps_nil))))))))))))))))))))))))) (by kernel_rfl)
  · exact h.elim
noncomputable def oWakes : Ctr P := ⟨25, wakesP, wakesV, wakes_gives⟩
end Go.Or
