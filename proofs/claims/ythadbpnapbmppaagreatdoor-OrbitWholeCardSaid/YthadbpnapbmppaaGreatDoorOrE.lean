/-
  The law OrbitWhole comes to true. Printed by orC.py.
-/
import Derived.Test.YthadbpnapbmppaaGreatDoorOrC
set_option maxRecDepth 100000
namespace Go.Or
open Go Go.RowKit Go.Sx Go.Nm Go.Wd Go.Qt Go.Iv Go.An Go.Wv Go.Nv Go.Ke Go.Proofs

noncomputable def EOw : Env P := ⟨⟨[oMay, oWakes] ++ orbC ++ R5.rf5C, [rFine]⟩, [], 20, []⟩
def twX (i : Iv) : Int := IntKind.i64.wrap (IntKind.i64.wrap (i.lo + i.hi) - (IntKind.i64.wrap ((IntKind.i64.wrap (2 * (whN i))) * 1073741824)))
def loX (i : Iv) : Int := IntKind.i64.wrap ((IntKind.i64.wrap (whN i - (whR i))) * 1073741824)
def hiX (i : Iv) : Int := IntKind.i64.wrap ((IntKind.i64.wrap (whN i + (whR i))) * 1073741824)
def loY (i : Iv) : Int := IntKind.i64.wrap ((IntKind.i64.wrap (IntKind.i64.wrap (whN i - (whR i)) + 1)) * 1073741824)
def hiY (i : Iv) : Int := IntKind.i64.wrap ((IntKind.i64.wrap (IntKind.i64.wrap (whN i + (whR i)) - 1)) * 1073741824)
structure Ow (i : Iv) : Prop where
  n1 : ¬ whN i > 2147483648
  n2 : ¬ whN i < -2147483648
  r1 : ¬ whR i < 0
  r2 : ¬ whR i > 2147483648
  t1 : ¬ twX i > 1073741824
  t2 : ¬ twX i < -1073741824
  t3 : twX i = 1073741824 → ¬ whN i ≥ 0
  t4 : twX i = -1073741824 → ¬ whN i ≤ 0
  a : ¬ loX i > i.lo
  b : ¬ hiX i < i.hi
  c : whR i ≠ 0 → ¬ loY i > i.lo → hiY i < i.hi
theorem ow {i : Iv} (f : fineL [i] = true) : Ow i := by
  rw [fine1] at f
  have ri := fine_iff.1 f
  have w := wh f
  have b := w.b
  have l := w.l
  have u := w.u
  have r0 := w.r0
  have r1 := w.r1
  have r2 := w.r2
  have r3 := w.r3
  have r4 := w.r4
  have t1 := w.t1
  have t2 := w.t2
  have e1 : twX i = i.lo + i.hi - 2 * whN i * 1073741824 := by
    unfold twX
    rw [Iv.wr (n := i.lo + i.hi) (by omega) (by omega), Iv.wr (n := 2 * whN i) (by omega) (by omega), Iv.wr (n := 2 * whN i * 1073741824) (by omega) (by omega), Iv.wr (by omega) (by omega)]
  have e2 : loX i = (whN i - whR i) * 1073741824 := by
    unfold loX
    rw [Iv.wr (n := whN i - whR i) (by omega) (by omega), Iv.wr (by omega) (by omega)]
  have e3 : hiX i = (whN i + whR i) * 1073741824 := by
    unfold hiX
    rw [Iv.wr (n := whN i + whR i) (by omega) (by omega), Iv.wr (by omega) (by omega)]
  have e4 : loY i = (whN i - whR i + 1) * 1073741824 := by
    unfold loY
    rw [Iv.wr (n := whN i - whR i) (by omega) (by omega), Iv.wr (n := whN i - whR i + 1) (by omega) (by omega), Iv.wr (by omega) (by omega)]
  have e5 : hiY i = (whN i + whR i - 1) * 1073741824 := by
    unfold hiY
    rw [Iv.wr (n := whN i + whR i) (by omega) (by omega), Iv.wr (n := whN i + whR i - 1) (by omega) (by omega), Iv.wr (by omega) (by omega)]
  refine ⟨by omega, by omega, by omega, by omega, by omega, by omega, fun g => by have := t1 (by omega); omega, fun g => by have := t2 (by omega); omega, by omega, by omega, fun g k => by omega⟩
theorem no_w {i : Iv} (f : fineL [i] = false) : whN i = 0 ∧ whR i = 0 := by unfold whN whR; rw [f]; exact ⟨rfl, rfl⟩
theorem ow0_run (i : Iv) : runF P EOw 1 9 [I i] (.lit :: (.b false :: (.b false :: (.b false :: (.b false :: (.b false :: (.b false :: (.b false :: (.b false :: (.b true :: (.b false :: (.b true :: (.b false :: (.b false :: (.b false :: (.b true :: [])))))))))))))))) =
  some (.bool true,
    [iP1 [I i],
     fineP [ivs [i]],
     (!(fineL [i])) = false,
     (!(fineL [i])) = false,
     (decide (whN i > 2147483648)) = false,
     (decide (whN i < -2147483648)) = false,
     (decide (whR i < 0)) = false,
     (decide (whR i > 2147483648)) = false,
     (decide (twX i > 1073741824)) = false,
     (decide (twX i < -1073741824)) = false,
     (twX i == 1073741824) = true,
     (decide (whN i ≥ 0)) = false,
     (twX i == -1073741824) = true,
     (decide (whN i ≤ 0)) = false,
     (decide (loX i > i.lo)) = false,
     (decide (hiX i < i.hi)) = false,
     (whR i == 0) = true,
     wakesP []]) := by kernel_rfl
theorem ow0_leaf (i : Iv)  (q0 : (fineL [i]) = true) (q1 : (decide (whN i > 2147483648)) = false) (q2 : (decide (whN i < -2147483648)) = false) (q3 : (decide (whR i < 0)) = false) (q4 : (decide (whR i > 2147483648)) = false) (q5 : (decide (twX i > 1073741824)) = false) (q6 : (decide (twX i < -1073741824)) = false) (q7 : (twX i == 1073741824) = true) (q8 : (decide (whN i ≥ 0)) = false) (q9 : (twX i == -1073741824) = true) (q10 : (decide (whN i ≤ 0)) = false) (q11 : (decide (loX i > i.lo)) = false) (q12 : (decide (hiX i < i.hi)) = false) (q13 : (whR i == 0) = true) : Gives P 9 #[I i] (.bool true) := by
  have R := ow0_run i
  refine gives_of_run mo R (ps_cons ⟨_, rfl⟩ (ps_cons (ivs_ok (by simp)) (ps_cons (neg_f q0) (ps_cons (neg_f q0) (ps_cons q1 (ps_cons q2 (ps_cons q3 (ps_cons q4 (ps_cons q5 (ps_cons q6 (ps_cons q7 (ps_cons q8 (ps_cons q9 (ps_cons q10 (ps_cons q11 (ps_cons q12 (ps_cons q13 (ps_cons trivial ps_nil)))))))))))))))))) ?_
  rfl
theorem ow1_run (i : Iv) : runF P EOw 1 9 [I i] (.lit :: (.b true :: (.b true :: (.b true :: (.b true :: []))))) =
  some (.bool true,
    [iP1 [I i],
     fineP [ivs [i]],
     (!(fineL [i])) = true,
     (!(fineL [i])) = true,
     (whN i == 0) = true,
     (whR i == 0) = true,
     wakesP []]) := by kernel_rfl
theorem ow1_leaf (i : Iv)  (q0 : (fineL [i]) = false) (q1 : (whN i == 0) = true) (q2 : (whR i == 0) = true) : Gives P 9 #[I i] (.bool true) := by
  have R := ow1_run i
  refine gives_of_run mo R (ps_cons ⟨_, rfl⟩ (ps_cons (ivs_ok (by simp)) (ps_cons (neg_t q0) (ps_cons (neg_t q0) (ps_cons q1 (ps_cons q2 (ps_cons trivial ps_nil))))))) ?_
  rfl
theorem ow2_run (i : Iv) : runF P EOw 1 9 [I i] (.lit :: (.b false :: (.b false :: (.b false :: (.b false :: (.b false :: (.b false :: (.b false :: (.b false :: (.b false :: (.lit :: (.b true :: (.b false :: (.b false :: (.b false :: (.b true :: [])))))))))))))))) =
  some (.bool true,
    [iP1 [I i],
     fineP [ivs [i]],
     (!(fineL [i])) = false,
     (!(fineL [i])) = false,
     (decide (whN i > 2147483648)) = false,
     (decide (whN i < -2147483648)) = false,
     (decide (whR i < 0)) = false,
     (decide (whR i > 2147483648)) = false,
     (decide (twX i > 1073741824)) = false,
     (decide (twX i < -1073741824)) = false,
     (twX i == 1073741824) = false,
     (twX i == -1073741824) = true,
     (decide (whN i ≤ 0)) = false,
     (decide (loX i > i.lo)) = false,
     (decide (hiX i < i.hi)) = false,
     (whR i == 0) = true,
     wakesP []]) := by kernel_rfl
theorem ow2_leaf (i : Iv)  (q0 : (fineL [i]) = true) (q1 : (decide (whN i > 2147483648)) = false) (q2 : (decide (whN i < -2147483648)) = false) (q3 : (decide (whR i < 0)) = false) (q4 : (decide (whR i > 2147483648)) = false) (q5 : (decide (twX i > 1073741824)) = false) (q6 : (decide (twX i < -1073741824)) = false) (q7 : (twX i == 1073741824) = false) (q8 : (twX i == -1073741824) = true) (q9 : (decide (whN i ≤ 0)) = false) (q10 : (decide (loX i > i.lo)) = false) (q11 : (decide (hiX i < i.hi)) = false) (q12 : (whR i == 0) = true) : Gives P 9 #[I i] (.bool true) := by
  have R := ow2_run i
  refine gives_of_run mo R (ps_cons ⟨_, rfl⟩ (ps_cons (ivs_ok (by simp)) (ps_cons (neg_f q0) (ps_cons (neg_f q0) (ps_cons q1 (ps_cons q2 (ps_cons q3 (ps_cons q4 (ps_cons q5 (ps_cons q6 (ps_cons q7 (ps_cons q8 (ps_cons q9 (ps_cons q10 (ps_cons q11 (ps_cons q12 (ps_cons trivial ps_nil))))))))))))))))) ?_
  rfl
theorem ow3_run (i : Iv) : runF P EOw 1 9 [I i] (.lit :: (.b false :: (.b false :: (.b false :: (.b false :: (.b false :: (.b false :: (.b false :: (.b false :: (.b false :: (.lit :: (.b false :: (.lit :: (.b false :: (.b false :: (.b true :: [])))))))))))))))) =
  some (.bool true,
    [iP1 [I i],
     fineP [ivs [i]],
     (!(fineL [i])) = false,
     (!(fineL [i])) = false,
     (decide (whN i > 2147483648)) = false,
     (decide (whN i < -2147483648)) = false,
     (decide (whR i < 0)) = false,
     (decide (whR i > 2147483648)) = false,
     (decide (twX i > 1073741824)) = false,
     (decide (twX i < -1073741824)) = false,
     (twX i == 1073741824) = false,
     (twX i == -1073741824) = false,
     (decide (loX i > i.lo)) = false,
     (decide (hiX i < i.hi)) = false,
     (whR i == 0) = true,
     wakesP []]) := by kernel_rfl
theorem ow3_leaf (i : Iv)  (q0 : (fineL [i]) = true) (q1 : (decide (whN i > 2147483648)) = false) (q2 : (decide (whN i < -2147483648)) = false) (q3 : (decide (whR i < 0)) = false) (q4 : (decide (whR i > 2147483648)) = false) (q5 : (decide (twX i > 1073741824)) = false) (q6 : (decide (twX i < -1073741824)) = false) (q7 : (twX i == 1073741824) = false) (q8 : (twX i == -1073741824) = false) (q9 : (decide (loX i > i.lo)) = false) (q10 : (decide (hiX i < i.hi)) = false) (q11 : (whR i == 0) = true) : Gives P 9 #[I i] (.bool true) := by
  have R := ow3_run i
  refine gives_of_run mo R (ps_cons ⟨_, rfl⟩ (ps_cons (ivs_ok (by simp)) (ps_cons (neg_f q0) (ps_cons (neg_f q0) (ps_cons q1 (ps_cons q2 (ps_cons q3 (ps_cons q4 (ps_cons q5 (ps_cons q6 (ps_cons q7 (ps_cons q8 (ps_cons q9 (ps_cons q10 (ps_cons q11 (ps_cons trivial ps_nil)))))))))))))))) ?_
  rfl
theorem ow4_run (i : Iv) : runF P EOw 1 9 [I i] (.lit :: (.b false :: (.b false :: (.b false :: (.b false :: (.b false :: (.b false :: (.b false :: (.b false :: (.b false :: (.lit :: (.b false :: (.lit :: (.b false :: (.b false :: (.b false :: (.b true :: []))))))))))))))))) =
  some (.bool true,
    [iP1 [I i],
     fineP [ivs [i]],
     (!(fineL [i])) = false,
     (!(fineL [i])) = false,
     (decide (whN i > 2147483648)) = false,
     (decide (whN i < -2147483648)) = false,
     (decide (whR i < 0)) = false,
     (decide (whR i > 2147483648)) = false,
     (decide (twX i > 1073741824)) = false,
     (decide (twX i < -1073741824)) = false,
     (twX i == 1073741824) = false,
     (twX i == -1073741824) = false,
     (decide (loX i > i.lo)) = false,
     (decide (hiX i < i.hi)) = false,
     (whR i == 0) = false,
     (decide (loY i > i.lo)) = true,
     wakesP []]) := by kernel_rfl
theorem ow4_leaf (i : Iv)  (q0 : (fineL [i]) = true) (q1 : (decide (whN i > 2147483648)) = false) (q2 : (decide (whN i < -2147483648)) = false) (q3 : (decide (whR i < 0)) = false) (q4 : (decide (whR i > 2147483648)) = false) (q5 : (decide (twX i > 1073741824)) = false) (q6 : (decide (twX i < -1073741824)) = false) (q7 : (twX i == 1073741824) = false) (q8 : (twX i == -1073741824) = false) (q9 : (decide (loX i > i.lo)) = false) (q10 : (decide (hiX i < i.hi)) = false) (q11 : (whR i == 0) = false) (q12 : (decide (loY i > i.lo)) = true) : Gives P 9 #[I i] (.bool true) := by
  have R := ow4_run i
  refine gives_of_run mo R (ps_cons ⟨_, rfl⟩ (ps_cons (ivs_ok (by simp)) (ps_cons (neg_f q0) (ps_cons (neg_f q0) (ps_cons q1 (ps_cons q2 (ps_cons q3 (ps_cons q4 (ps_cons q5 (ps_cons q6 (ps_cons q7 (ps_cons q8 (ps_cons q9 (ps_cons q10 (ps_cons q11 (ps_cons q12 (ps_cons trivial ps_nil))))))))))))))))) ?_
  rfl
theorem ow5_run (i : Iv) : runF P EOw 1 9 [I i] (.lit :: (.b false :: (.b false :: (.b false :: (.b false :: (.b false :: (.b false :: (.b false :: (.b false :: (.b false :: (.lit :: (.b false :: (.lit :: (.b false :: (.b false :: (.b false :: (.b false :: (.b true :: [])))))))))))))))))) =
  some (.bool true,
    [iP1 [I i],
     fineP [ivs [i]],
     (!(fineL [i])) = false,
     (!(fineL [i])) = false,
     (decide (whN i > 2147483648)) = false,
     (decide (whN i < -2147483648)) = false,
     (decide (whR i < 0)) = false,
     (decide (whR i > 2147483648)) = false,
     (decide (twX i > 1073741824)) = false,
     (decide (twX i < -1073741824)) = false,
     (twX i == 1073741824) = false,
     (twX i == -1073741824) = false,
     (decide (loX i > i.lo)) = false,
     (decide (hiX i < i.hi)) = false,
     (whR i == 0) = false,
     (decide (loY i > i.lo)) = false,
     (decide (hiY i < i.hi)) = true,
     wakesP []]) := by kernel_rfl
theorem ow5_leaf (i : Iv)  (q0 : (fineL [i]) = true) (q1 : (decide (whN i > 2147483648)) = false) (q2 : (decide (whN i < -2147483648)) = false) (q3 : (decide (whR i < 0)) = false) (q4 : (decide (whR i > 2147483648)) = false) (q5 : (decide (twX i > 1073741824)) = false) (q6 : (decide (twX i < -1073741824)) = false) (q7 : (twX i == 1073741824) = false) (q8 : (twX i == -1073741824) = false) (q9 : (decide (loX i > i.lo)) = false) (q10 : (decide (hiX i < i.hi)) = false) (q11 : (whR i == 0) = false) (q12 : (decide (loY i > i.lo)) = false) (q13 : (decide (hiY i < i.hi)) = true) : Gives P 9 #[I i] (.bool true) := by
  have R := ow5_run i
  refine gives_of_run mo R (ps_cons ⟨_, rfl⟩ (ps_cons (ivs_ok (by simp)) (ps_cons (neg_f q0) (ps_cons (neg_f q0) (ps_cons q1 (ps_cons q2 (ps_cons q3 (ps_cons q4 (ps_cons q5 (ps_cons q6 (ps_cons q7 (ps_cons q8 (ps_cons q9 (ps_cons q10 (ps_cons q11 (ps_cons q12 (ps_cons q13 (ps_cons trivial ps_nil)))))))))))))))))) ?_
  rfl
theorem ow6_run (i : Iv) : runF P EOw 1 9 [I i] (.lit :: (.b false :: (.b false :: (.b false :: (.b false :: (.b false :: (.b false :: (.b false :: (.b false :: (.b false :: (.lit :: (.b true :: (.b false :: (.b false :: (.b false :: (.b false :: (.b true :: []))))))))))))))))) =
  some (.bool true,
    [iP1 [I i],
     fineP [ivs [i]],
     (!(fineL [i])) = false,
     (!(fineL [i])) = false,
     (decide (whN i > 2147483648)) = false,
     (decide (whN i < -2147483648)) = false,
     (decide (whR i < 0)) = false,
     (decide (whR i > 2147483648)) = false,
     (decide (twX i > 1073741824)) = false,
     (decide (twX i < -1073741824)) = false,
     (twX i == 1073741824) = false,
     (twX i == -1073741824) = true,
     (decide (whN i ≤ 0)) = false,
     (decide (loX i > i.lo)) = false,
     (decide (hiX i < i.hi)) = false,
     (whR i == 0) = false,
     (decide (loY i > i.lo)) = true,
     wakesP []]) := by kernel_rfl
theorem ow6_leaf (i : Iv)  (q0 : (fineL [i]) = true) (q1 : (decide (whN i > 2147483648)) = false) (q2 : (decide (whN i < -2147483648)) = false) (q3 : (decide (whR i < 0)) = false) (q4 : (decide (whR i > 2147483648)) = false) (q5 : (decide (twX i > 1073741824)) = false) (q6 : (decide (twX i < -1073741824)) = false) (q7 : (twX i == 1073741824) = false) (q8 : (twX i == -1073741824) = true) (q9 : (decide (whN i ≤ 0)) = false) (q10 : (decide (loX i > i.lo)) = false) (q11 : (decide (hiX i < i.hi)) = false) (q12 : (whR i == 0) = false) (q13 : (decide (loY i > i.lo)) = true) : Gives P 9 #[I i] (.bool true) := by
  have R := ow6_run i
  refine gives_of_run mo R (ps_cons ⟨_, rfl⟩ (ps_cons (ivs_ok (by simp)) (ps_cons (neg_f q0) (ps_cons (neg_f q0) (ps_cons q1 (ps_cons q2 (ps_cons q3 (ps_cons q4 (ps_cons q5 (ps_cons q6 (ps_cons q7 (ps_cons q8 (ps_cons q9 (ps_cons q10 (ps_cons q11 (ps_cons q12 (ps_cons q13 (ps_cons trivial ps_nil)))))))))))))))))) ?_
  rfl
theorem ow7_run (i : Iv) : runF P EOw 1 9 [I i] (.lit :: (.b false :: (.b false :: (.b false :: (.b false :: (.b false :: (.b false :: (.b false :: (.b false :: (.b false :: (.lit :: (.b true :: (.b false :: (.b false :: (.b false :: (.b false :: (.b false :: (.b true :: [])))))))))))))))))) =
  some (.bool true,
    [iP1 [I i],
     fineP [ivs [i]],
     (!(fineL [i])) = false,
     (!(fineL [i])) = false,
     (decide (whN i > 2147483648)) = false,
     (decide (whN i < -2147483648)) = false,
     (decide (whR i < 0)) = false,
     (decide (whR i > 2147483648)) = false,
     (decide (twX i > 1073741824)) = false,
     (decide (twX i < -1073741824)) = false,
     (twX i == 1073741824) = false,
     (twX i == -1073741824) = true,
     (decide (whN i ≤ 0)) = false,
     (decide (loX i > i.lo)) = false,
     (decide (hiX i < i.hi)) = false,
     (whR i == 0) = false,
     (decide (loY i > i.lo)) = false,
     (decide (hiY i < i.hi)) = true,
     wakesP []]) := by kernel_rfl
theorem ow7_leaf (i : Iv)  (q0 : (fineL [i]) = true) (q1 : (decide (whN i > 2147483648)) = false) (q2 : (decide (whN i < -2147483648)) = false) (q3 : (decide (whR i < 0)) = false) (q4 : (decide (whR i > 2147483648)) = false) (q5 : (decide (twX i > 1073741824)) = false) (q6 : (decide (twX i < -1073741824)) = false) (q7 : (twX i == 1073741824) = false) (q8 : (twX i == -1073741824) = true) (q9 : (decide (whN i ≤ 0)) = false) (q10 : (decide (loX i > i.lo)) = false) (q11 : (decide (hiX i < i.hi)) = false) (q12 : (whR i == 0) = false) (q13 : (decide (loY i > i.lo)) = false) (q14 : (decide (hiY i < i.hi)) = true) : Gives P 9 #[I i] (.bool true) := by
  have R := ow7_run i
  refine gives_of_run mo R (ps_cons ⟨_, rfl⟩ (ps_cons (ivs_ok (by simp)) (ps_cons (neg_f q0) (ps_cons (neg_f q0) (ps_cons q1 (ps_cons q2 (ps_cons q3 (ps_cons q4 (ps_cons q5 (ps_cons q6 (ps_cons q7 (ps_cons q8 (ps_cons q9 (ps_cons q10 (ps_cons q11 (ps_cons q12 (ps_cons q13 (ps_cons q14 (ps_cons trivial ps_nil))))))))))))))))))) ?_
  rfl
theorem ow8_run (i : Iv) : runF P EOw 1 9 [I i] (.lit :: (.b false :: (.b false :: (.b false :: (.b false :: (.b false :: (.b false :: (.b false :: (.b false :: (.b true :: (.b false :: (.b false :: (.lit :: (.b false :: (.b false :: (.b true :: [])))))))))))))))) =
  some (.bool true,
    [iP1 [I i],
     fineP [ivs [i]],
     (!(fineL [i])) = false,
     (!(fineL [i])) = false,
     (decide (whN i > 2147483648)) = false,
     (decide (whN i < -2147483648)) = false,
     (decide (whR i < 0)) = false,
     (decide (whR i > 2147483648)) = false,
     (decide (twX i > 1073741824)) = false,
     (decide (twX i < -1073741824)) = false,
     (twX i == 1073741824) = true,
     (decide (whN i ≥ 0)) = false,
     (twX i == -1073741824) = false,
     (decide (loX i > i.lo)) = false,
     (decide (hiX i < i.hi)) = false,
     (whR i == 0) = true,
     wakesP []]) := by kernel_rfl
theorem ow8_leaf (i : Iv)  (q0 : (fineL [i]) = true) (q1 : (decide (whN i > 2147483648)) = false) (q2 : (decide (whN i < -2147483648)) = false) (q3 : (decide (whR i < 0)) = false) (q4 : (decide (whR i > 2147483648)) = false) (q5 : (decide (twX i > 1073741824)) = false) (q6 : (decide (twX i < -1073741824)) = false) (q7 : (twX i == 1073741824) = true) (q8 : (decide (whN i ≥ 0)) = false) (q9 : (twX i == -1073741824) = false) (q10 : (decide (loX i > i.lo)) = false) (q11 : (decide (hiX i < i.hi)) = false) (q12 : (whR i == 0) = true) : Gives P 9 #[I i] (.bool true) := by
  have R := ow8_run i
  refine gives_of_run mo R (ps_cons ⟨_, rfl⟩ (ps_cons (ivs_ok (by simp)) (ps_cons (neg_f q0) (ps_cons (neg_f q0) (ps_cons q1 (ps_cons q2 (ps_cons q3 (ps_cons q4 (ps_cons q5 (ps_cons q6 (ps_cons q7 (ps_cons q8 (ps_cons q9 (ps_cons q10 (ps_cons q11 (ps_cons q12 (ps_cons trivial ps_nil))))))))))))))))) ?_
  rfl
theorem ow9_run (i : Iv) : runF P EOw 1 9 [I i] (.lit :: (.b false :: (.b false :: (.b false :: (.b false :: (.b false :: (.b false :: (.b false :: (.b false :: (.b true :: (.b false :: (.b false :: (.lit :: (.b false :: (.b false :: (.b false :: (.b true :: []))))))))))))))))) =
  some (.bool true,
    [iP1 [I i],
     fineP [ivs [i]],
     (!(fineL [i])) = false,
     (!(fineL [i])) = false,
     (decide (whN i > 2147483648)) = false,
     (decide (whN i < -2147483648)) = false,
     (decide (whR i < 0)) = false,
     (decide (whR i > 2147483648)) = false,
     (decide (twX i > 1073741824)) = false,
     (decide (twX i < -1073741824)) = false,
     (twX i == 1073741824) = true,
     (decide (whN i ≥ 0)) = false,
     (twX i == -1073741824) = false,
     (decide (loX i > i.lo)) = false,
     (decide (hiX i < i.hi)) = false,
     (whR i == 0) = false,
     (decide (loY i > i.lo)) = true,
     wakesP []]) := by kernel_rfl
theorem ow9_leaf (i : Iv)  (q0 : (fineL [i]) = true) (q1 : (decide (whN i > 2147483648)) = false) (q2 : (decide (whN i < -2147483648)) = false) (q3 : (decide (whR i < 0)) = false) (q4 : (decide (whR i > 2147483648)) = false) (q5 : (decide (twX i > 1073741824)) = false) (q6 : (decide (twX i < -1073741824)) = false) (q7 : (twX i == 1073741824) = true) (q8 : (decide (whN i ≥ 0)) = false) (q9 : (twX i == -1073741824) = false) (q10 : (decide (loX i > i.lo)) = false) (q11 : (decide (hiX i < i.hi)) = false) (q12 : (whR i == 0) = false) (q13 : (decide (loY i > i.lo)) = true) : Gives P 9 #[I i] (.bool true) := by
  have R := ow9_run i
  refine gives_of_run mo R (ps_cons ⟨_, rfl⟩ (ps_cons (ivs_ok (by simp)) (ps_cons (neg_f q0) (ps_cons (neg_f q0) (ps_cons q1 (ps_cons q2 (ps_cons q3 (ps_cons q4 (ps_cons q5 (ps_cons q6 (ps_cons q7 (ps_cons q8 (ps_cons q9 (ps_cons q10 (ps_cons q11 (ps_cons q12 (ps_cons q13 (ps_cons trivial ps_nil)))))))))))))))))) ?_
  rfl
theorem ow10_run (i : Iv) : runF P EOw 1 9 [I i] (.lit :: (.b false :: (.b false :: (.b false :: (.b false :: (.b false :: (.b false :: (.b false :: (.b false :: (.b true :: (.b false :: (.b false :: (.lit :: (.b false :: (.b false :: (.b false :: (.b false :: (.b true :: [])))))))))))))))))) =
  some (.bool true,
    [iP1 [I i],
     fineP [ivs [i]],
     (!(fineL [i])) = false,
     (!(fineL [i])) = false,
     (decide (whN i > 2147483648)) = false,
     (decide (whN i < -2147483648)) = false,
     (decide (whR i < 0)) = false,
     (decide (whR i > 2147483648)) = false,
     (decide (twX i > 1073741824)) = false,
     (decide (twX i < -1073741824)) = false,
     (twX i == 1073741824) = true,
     (decide (whN i ≥ 0)) = false,
     (twX i == -1073741824) = false,
     (decide (loX i > i.lo)) = false,
     (decide (hiX i < i.hi)) = false,
     (whR i == 0) = false,
     (decide (loY i > i.lo)) = false,
     (decide (hiY i < i.hi)) = true,
     wakesP []]) := by kernel_rfl
theorem ow10_leaf (i : Iv)  (q0 : (fineL [i]) = true) (q1 : (decide (whN i > 2147483648)) = false) (q2 : (decide (whN i < -2147483648)) = false) (q3 : (decide (whR i < 0)) = false) (q4 : (decide (whR i > 2147483648)) = false) (q5 : (decide (twX i > 1073741824)) = false) (q6 : (decide (twX i < -1073741824)) = false) (q7 : (twX i == 1073741824) = true) (q8 : (decide (whN i ≥ 0)) = false) (q9 : (twX i == -1073741824) = false) (q10 : (decide (loX i > i.lo)) = false) (q11 : (decide (hiX i < i.hi)) = false) (q12 : (whR i == 0) = false) (q13 : (decide (loY i > i.lo)) = false) (q14 : (decide (hiY i < i.hi)) = true) : Gives P 9 #[I i] (.bool true) := by
  have R := ow10_run i
  refine gives_of_run mo R (ps_cons ⟨_, rfl⟩ (ps_cons (ivs_ok (by simp)) (ps_cons (neg_f q0) (ps_cons (neg_f q0) (ps_cons q1 (ps_cons q2 (ps_cons q3 (ps_cons q4 (ps_cons q5 (ps_cons q6 (ps_cons q7 (ps_cons q8 (ps_cons q9 (ps_cons q10 (ps_cons q11 (ps_cons q12 (ps_cons q13 (ps_cons q14 (ps_cons trivial ps_nil))))))))))))))))))) ?_
  rfl
theorem ow11_run (i : Iv) : runF P EOw 1 9 [I i] (.lit :: (.b false :: (.b false :: (.b false :: (.b false :: (.b false :: (.b false :: (.b false :: (.b false :: (.b true :: (.b false :: (.b true :: (.b false :: (.b false :: (.b false :: (.b false :: (.b true :: []))))))))))))))))) =
  some (.bool true,
    [iP1 [I i],
     fineP [ivs [i]],
     (!(fineL [i])) = false,
     (!(fineL [i])) = false,
     (decide (whN i > 2147483648)) = false,
     (decide (whN i < -2147483648)) = false,
     (decide (whR i < 0)) = false,
     (decide (whR i > 2147483648)) = false,
     (decide (twX i > 1073741824)) = false,
     (decide (twX i < -1073741824)) = false,
     (twX i == 1073741824) = true,
     (decide (whN i ≥ 0)) = false,
     (twX i == -1073741824) = true,
     (decide (whN i ≤ 0)) = false,
     (decide (loX i > i.lo)) = false,
     (decide (hiX i < i.hi)) = false,
     (whR i == 0) = false,
     (decide (loY i > i.lo)) = true,
     wakesP []]) := by kernel_rfl
theorem ow11_leaf (i : Iv)  (q0 : (fineL [i]) = true) (q1 : (decide (whN i > 2147483648)) = false) (q2 : (decide (whN i < -2147483648)) = false) (q3 : (decide (whR i < 0)) = false) (q4 : (decide (whR i > 2147483648)) = false) (q5 : (decide (twX i > 1073741824)) = false) (q6 : (decide (twX i < -1073741824)) = false) (q7 : (twX i == 1073741824) = true) (q8 : (decide (whN i ≥ 0)) = false) (q9 : (twX i == -1073741824) = true) (q10 : (decide (whN i ≤ 0)) = false) (q11 : (decide (loX i > i.lo)) = false) (q12 : (decide (hiX i < i.hi)) = false) (q13 : (whR i == 0) = false) (q14 : (decide (loY i > i.lo)) = true) : Gives P 9 #[I i] (.bool true) := by
  have R := ow11_run i
  refine gives_of_run mo R (ps_cons ⟨_, rfl⟩ (ps_cons (ivs_ok (by simp)) (ps_cons (neg_f q0) (ps_cons (neg_f q0) (ps_cons q1 (ps_cons q2 (ps_cons q3 (ps_cons q4 (ps_cons q5 (ps_cons q6 (ps_cons q7 (ps_cons q8 (ps_cons q9 (ps_cons q10 (ps_cons q11 (ps_cons q12 (ps_cons q13 (ps_cons q14 (ps_cons trivial ps_nil))))))))))))))))))) ?_
  rfl
theorem ow12_run (i : Iv) : runF P EOw 1 9 [I i] (.lit :: (.b false :: (.b false :: (.b false :: (.b false :: (.b false :: (.b false :: (.b false :: (.b false :: (.b true :: (.b false :: (.b true :: (.b false :: (.b false :: (.b false :: (.b false :: (.b false :: (.b true :: [])))))))))))))))))) =
  some (.bool true,
    [iP1 [I i],
     fineP [ivs [i]],
     (!(fineL [i])) = false,
     (!(fineL [i])) = false,
     (decide (whN i > 2147483648)) = false,
     (decide (whN i < -2147483648)) = false,
     (decide (whR i < 0)) = false,
     (decide (whR i > 2147483648)) = false,
     (decide (twX i > 1073741824)) = false,
     (decide (twX i < -1073741824)) = false,
     (twX i == 1073741824) = true,
     (decide (whN i ≥ 0)) = false,
     (twX i == -1073741824) = true,
     (decide (whN i ≤ 0)) = false,
     (decide (loX i > i.lo)) = false,
     (decide (hiX i < i.hi)) = false,
     (whR i == 0) = false,
     (decide (loY i > i.lo)) = false,
     (decide (hiY i < i.hi)) = true,
     wakesP []]) := by kernel_rfl
theorem ow12_leaf (i : Iv)  (q0 : (fineL [i]) = true) (q1 : (decide (whN i > 2147483648)) = false) (q2 : (decide (whN i < -2147483648)) = false) (q3 : (decide (whR i < 0)) = false) (q4 : (decide (whR i > 2147483648)) = false) (q5 : (decide (twX i > 1073741824)) = false) (q6 : (decide (twX i < -1073741824)) = false) (q7 : (twX i == 1073741824) = true) (q8 : (decide (whN i ≥ 0)) = false) (q9 : (twX i == -1073741824) = true) (q10 : (decide (whN i ≤ 0)) = false) (q11 : (decide (loX i > i.lo)) = false) (q12 : (decide (hiX i < i.hi)) = false) (q13 : (whR i == 0) = false) (q14 : (decide (loY i > i.lo)) = false) (q15 : (decide (hiY i < i.hi)) = true) : Gives P 9 #[I i] (.bool true) := by
  have R := ow12_run i
  refine gives_of_run mo R (ps_cons ⟨_, rfl⟩ (ps_cons (ivs_ok (by simp)) (ps_cons (neg_f q0) (ps_cons (neg_f q0) (ps_cons q1 (ps_cons q2 (ps_cons q3 (ps_cons q4 (ps_cons q5 (ps_cons q6 (ps_cons q7 (ps_cons q8 (ps_cons q9 (ps_cons q10 (ps_cons q11 (ps_cons q12 (ps_cons q13 (ps_cons q14 (ps_cons q15 (ps_cons trivial ps_nil)))))))))))))))))))) ?_
  rfl
theorem OrbitWhole_all (i : Iv) : Gives P 9 #[I i] (.bool true) := by
  rcases Bool.eq_false_or_eq_true (fineL [i]) with q0 | q0
  · have q1 : (decide (whN i > 2147483648)) = false := (decide_eq_false (ow q0).n1)
    have q2 : (decide (whN i < -2147483648)) = false := (decide_eq_false (ow q0).n2)
    have q3 : (decide (whR i < 0)) = false := (decide_eq_false (ow q0).r1)
    have q4 : (decide (whR i > 2147483648)) = false := (decide_eq_false (ow q0).r2)
    have q5 : (decide (twX i > 1073741824)) = false := (decide_eq_false (ow q0).t1)
    have q6 : (decide (twX i < -1073741824)) = false := (decide_eq_false (ow q0).t2)
    rcases Bool.eq_false_or_eq_true (twX i == 1073741824) with q7 | q7
    · have q8 : (decide (whN i ≥ 0)) = false := (decide_eq_false ((ow q0).t3 (beq_iff_eq.1 q7)))
      rcases Bool.eq_false_or_eq_true (twX i == -1073741824) with q9 | q9
      · have q10 : (decide (whN i ≤ 0)) = false := (decide_eq_false ((ow q0).t4 (beq_iff_eq.1 q9)))
        have q11 : (decide (loX i > i.lo)) = false := (decide_eq_false (ow q0).a)
        have q12 : (decide (hiX i < i.hi)) = false := (decide_eq_false (ow q0).b)
        rcases Bool.eq_false_or_eq_true (whR i == 0) with q13 | q13
        · exact ow0_leaf i  q0 q1 q2 q3 q4 q5 q6 q7 q8 q9 q10 q11 q12 q13
        · rcases Bool.eq_false_or_eq_true (decide (loY i > i.lo)) with q14 | q14
          · exact ow11_leaf i  q0 q1 q2 q3 q4 q5 q6 q7 q8 q9 q10 q11 q12 q13 q14
          · have q15 : (decide (hiY i < i.hi)) = true := (decide_eq_true ((ow q0).c (by simpa using q13) (of_decide_eq_false q14)))
            exact ow12_leaf i  q0 q1 q2 q3 q4 q5 q6 q7 q8 q9 q10 q11 q12 q13 q14 q15
      · have q10 : (decide (loX i > i.lo)) = false := (decide_eq_false (ow q0).a)
        have q11 : (decide (hiX i < i.hi)) = false := (decide_eq_false (ow q0).b)
        rcases Bool.eq_false_or_eq_true (whR i == 0) with q12 | q12
        · exact ow8_leaf i  q0 q1 q2 q3 q4 q5 q6 q7 q8 q9 q10 q11 q12
        · rcases Bool.eq_false_or_eq_true (decide (loY i > i.lo)) with q13 | q13
          · exact ow9_leaf i  q0 q1 q2 q3 q4 q5 q6 q7 q8 q9 q10 q11 q12 q13
          · have q14 : (decide (hiY i < i.hi)) = true := (decide_eq_true ((ow q0).c (by simpa using q12) (of_decide_eq_false q13)))
            exact ow10_leaf i  q0 q1 q2 q3 q4 q5 q6 q7 q8 q9 q10 q11 q12 q13 q14
    · rcases Bool.eq_false_or_eq_true (twX i == -1073741824) with q8 | q8
      · have q9 : (decide (whN i ≤ 0)) = false := (decide_eq_false ((ow q0).t4 (beq_iff_eq.1 q8)))
        have q10 : (decide (loX i > i.lo)) = false := (decide_eq_false (ow q0).a)
        have q11 : (decide (hiX i < i.hi)) = false := (decide_eq_false (ow q0).b)
        rcases Bool.eq_false_or_eq_true (whR i == 0) with q12 | q12
        · exact ow2_leaf i  q0 q1 q2 q3 q4 q5 q6 q7 q8 q9 q10 q11 q12
        · rcases Bool.eq_false_or_eq_true (decide (loY i > i.lo)) with q13 | q13
          · exact ow6_leaf i  q0 q1 q2 q3 q4 q5 q6 q7 q8 q9 q10 q11 q12 q13
          · have q14 : (decide (hiY i < i.hi)) = true := (decide_eq_true ((ow q0).c (by simpa using q12) (of_decide_eq_false q13)))
            exact ow7_leaf i  q0 q1 q2 q3 q4 q5 q6 q7 q8 q9 q10 q11 q12 q13 q14
      · have q9 : (decide (loX i > i.lo)) = false := (decide_eq_false (ow q0).a)
        have q10 : (decide (hiX i < i.hi)) = false := (decide_eq_false (ow q0).b)
        rcases Bool.eq_false_or_eq_true (whR i == 0) with q11 | q11
        · exact ow3_leaf i  q0 q1 q2 q3 q4 q5 q6 q7 q8 q9 q10 q11
        · rcases Bool.eq_false_or_eq_true (decide (loY i > i.lo)) with q12 | q12
          · exact ow4_leaf i  q0 q1 q2 q3 q4 q5 q6 q7 q8 q9 q10 q11 q12
          · have q13 : (decide (hiY i < i.hi)) = true := (decide_eq_true ((ow q0).c (by simpa using q11) (of_decide_eq_false q12)))
            exact ow5_leaf i  q0 q1 q2 q3 q4 q5 q6 q7 q8 q9 q10 q11 q12 q13
  · have q1 : (whN i == 0) = true := (bq (no_w q0).1)
    have q2 : (whR i == 0) = true := (bq (no_w q0).2)
    exact ow1_leaf i  q0 q1 q2
end Go.Or
