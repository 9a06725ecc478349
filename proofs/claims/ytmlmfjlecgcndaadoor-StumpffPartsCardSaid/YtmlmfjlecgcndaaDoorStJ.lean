/-
  The law StumpffParts: it comes to true. Printed by stJ.py.
-/
import Derived.Test.YtmlmfjlecgcndaaDoorStE
set_option maxRecDepth 100000
namespace Go.St
open Go Go.RowKit Go.Sx Go.Nm Go.Wd Go.Qt Go.Iv Go.An Go.Wv Go.Nv Go.Rt Go.Proofs

def r4 (k : Int) : Int := (IntKind.i64.wrap (k.tmod 4 + 4)).tmod 4
def s16 (n : Int) : Int := inS 17179869184 n
def md8 (n m : Int) : Int := IntKind.i64.wrap (s16 n + (IntKind.i64.wrap ((IntKind.i64.wrap (s16 m - (s16 n))).tdiv 2)))
theorem r4_in (k : Int) : ∃ j : Nat, j ≤ 3 ∧ r4 k = j := by
  have w := in_math (n := k) (w := 4) (by decide) (by decide)
  have r1 := Int.emod_nonneg k (show (4 : Int) ≠ 0 by decide)
  have r2 := Int.emod_lt_of_pos k (show (0 : Int) < 4 by decide)
  unfold r4
  rw [w.1, w.2]
  exact ⟨(k % 4).toNat, by omega, by omega⟩
theorem same9 {x y : Iv} (h : x = y) : ((x.lo == y.lo) && ((x.hi == y.hi) && (x.bad == y.bad))) = true := by rw [h]; simp
theorem half {p q : Int} (h1 : -17179869184 ≤ p) (h2 : p ≤ 17179869184) (h3 : -17179869184 ≤ q) (h4 : q ≤ 17179869184) :
    (mn p q ≤ IntKind.i64.wrap (p + IntKind.i64.wrap ((IntKind.i64.wrap (q - p)).tdiv 2))) ∧ IntKind.i64.wrap (p + IntKind.i64.wrap ((IntKind.i64.wrap (q - p)).tdiv 2)) ≤ mx p q := by
  have e := Int.mul_tdiv_add_tmod (q - p) 2
  have l := Int.tmod_lt_of_pos (q - p) (show (0 : Int) < 2 by decide)
  have g := Int.lt_tmod_of_pos (q - p) (show (0 : Int) < 2 by decide)
  have s0 : 0 ≤ q - p → 0 ≤ (q - p).tmod 2 := fun h => Int.tmod_nonneg 2 h
  have s1 : q - p ≤ 0 → (q - p).tmod 2 ≤ 0 := fun h => by
    have := Int.tmod_nonneg 2 (show 0 ≤ -(q - p) by omega)
    rw [Int.neg_tmod] at this
    omega
  generalize (q - p).tmod 2 = r at *
  rw [wr (n := q - p) (by omega) (by omega)]
  generalize (q - p).tdiv 2 = d at *
  rw [wr (n := d) (by omega) (by omega), wr (by omega) (by omega)]
  unfold mn mx
  split <;> split <;> omega
structure Pa (k n m : Int) : Prop where
  i : nP2 [.int .i64 (s16 n), .int .i64 (s16 m)]
  p : I64 (s16 n)
  q : I64 (s16 m)
  h : I64 (md8 n m)
  f : fineL [cV (r4 k) (makeI (s16 n) (s16 m)), cV (r4 k) (pointI (s16 n)), cV (r4 k) (pointI (s16 m))] = true
  x : mtS (cV (r4 k) (makeI (s16 n) (s16 m))) (cV (r4 k) (pointI (s16 n))) = true
  y : mtS (cV (r4 k) (makeI (s16 n) (s16 m))) (cV (r4 k) (pointI (s16 m))) = true
  z : mtS (cV (r4 k) (makeI (s16 n) (s16 m))) (cV (r4 k) (pointI (md8 n m))) = true
  w : (decide (s16 n > s16 m)) = false → (decide (s16 m > 0)) = false → (decide ((cV (r4 k) (pointI (s16 n))).hi ≥ (cV (r4 k) (pointI (s16 m))).lo)) = true
theorem pa (k n m : Int) : Pa k n m := by
  obtain ⟨j, hj, ek⟩ := r4_in k
  have hp := inS_in n (m := 17179869184) (by decide)
  have hq := inS_in m (m := 17179869184) (by decide)
  have h1 : -17179869184 ≤ s16 n := hp.1
  have h2 : s16 n ≤ 17179869184 := hp.2
  have h3 : -17179869184 ≤ s16 m := hq.1
  have h4 : s16 m ≤ 17179869184 := hq.2
  have hm := half h1 h2 h3 h4
  have eC : ∀ a, cV (r4 k) a = cI j a := fun a => by rw [ek]; exact cV_eq j hj a
  have m1 : mn (s16 n) (s16 m) ≤ s16 n ∧ mn (s16 n) (s16 m) ≤ s16 m := mn_ge.1 (Int.le_refl _)
  have m2 : s16 n ≤ mx (s16 n) (s16 m) ∧ s16 m ≤ mx (s16 n) (s16 m) := mx_le.1 (Int.le_refl _)
  have m3 : -17179869184 ≤ mn (s16 n) (s16 m) := mn_ge.2 ⟨h1, h3⟩
  have m4 : mx (s16 n) (s16 m) ≤ 17179869184 := mx_le.2 ⟨h2, h4⟩
  have f : fine ⟨mn (s16 n) (s16 m), mx (s16 n) (s16 m), false⟩ = true := fine_iff.2 ⟨rfl, by simp only; omega, by simp only; omega, by simp only; omega⟩
  have e : makeI (s16 n) (s16 m) = ⟨mn (s16 n) (s16 m), mx (s16 n) (s16 m), false⟩ := told_ok f
  have hA : holdsI (around 17179869184) (makeI (s16 n) (s16 m)) = true := by rw [e]; exact far_16 f m3 m4
  have c := fun (v : Int) (a : mn (s16 n) (s16 m) ≤ v) (b : v ≤ mx (s16 n) (s16 m)) => part_c hj hA (n := v) (by rw [e]; exact a) (by rw [e]; exact b)
  have cp := c _ m1.1 m2.1
  have cq := c _ m1.2 m2.2
  have cm := c (md8 n m) hm.1 hm.2
  have hmd : mn (s16 n) (s16 m) ≤ md8 n m ∧ md8 n m ≤ mx (s16 n) (s16 m) := hm
  refine ⟨by unfold nP2 I64; omega, by unfold I64; omega, by unfold I64; omega, by unfold I64; omega, ?_, ?_, ?_, ?_, ?_⟩
  · simp only [eC]; exact fl1 cp.1 (fl1 cp.2.1 (fl1 cq.2.1 rfl))
  · simp only [eC]; exact cp.2.2
  · simp only [eC]; exact cq.2.2
  · simp only [eC]; exact cm.2.2
  · intro a b
    have a := of_decide_eq_false a
    have b := of_decide_eq_false b
    simp only [eC]
    exact decide_eq_true (anti_c hj h1 (by omega) (by omega))
theorem sp0_0_run (n m k : Int) : runF P EL 1 4 [.int .i64 n, .int .i64 m, .int .i64 k] (.lit :: (.b false :: (.b false :: (.b false :: (.b false :: (.b true :: (.lit :: (.lit :: (.n 0 :: (.b true :: [])))))))))) =
  some (.bool true,
    [inP [.int .i64 n, .int .i64 17179869184],
     inP [.int .i64 m, .int .i64 17179869184],
     nP2 [.int .i64 (s16 n), .int .i64 (s16 m)],
     cP [.int .i64 (r4 k), I (makeI (s16 n) (s16 m))],
     nP1 [.int .i64 (s16 n)],
     cP [.int .i64 (r4 k), I (pointI (s16 n))],
     nP1 [.int .i64 (s16 m)],
     cP [.int .i64 (r4 k), I (pointI (s16 m))],
     fineP [ivs [cV (r4 k) (makeI (s16 n) (s16 m)), cV (r4 k) (pointI (s16 n)), cV (r4 k) (pointI (s16 m))]],
     (!(fineL [cV (r4 k) (makeI (s16 n) (s16 m)), cV (r4 k) (pointI (s16 n)), cV (r4 k) (pointI (s16 m))])) = false,
     iP2 [I (cV (r4 k) (makeI (s16 n) (s16 m))), I (cV (r4 k) (pointI (s16 n)))],
     (!(mtS (cV (r4 k) (makeI (s16 n) (s16 m))) (cV (r4 k) (pointI (s16 n))))) = false,
     iP2 [I (cV (r4 k) (makeI (s16 n) (s16 m))), I (cV (r4 k) (pointI (s16 m)))],
     (!(mtS (cV (r4 k) (makeI (s16 n) (s16 m))) (cV (r4 k) (pointI (s16 m))))) = false,
     nP1 [.int .i64 (md8 n m)],
     cP [.int .i64 (r4 k), I (pointI (md8 n m))],
     iP2 [I (cV (r4 k) (makeI (s16 n) (s16 m))), I (cV (r4 k) (pointI (md8 n m)))],
     (!(mtS (cV (r4 k) (makeI (s16 n) (s16 m))) (cV (r4 k) (pointI (md8 n m))))) = false,
     (decide (s16 n > s16 m)) = true,
     cP [.int .i64 (r4 k), I (makeI (s16 n) (s16 m))],
     iP1 [I (makeI (s16 n) (s16 m))],
     r4 k = 0,
     (((cV (r4 k) (makeI (s16 n) (s16 m))).lo == (cV 0 (makeI (s16 n) (s16 m))).lo) && (((cV (r4 k) (makeI (s16 n) (s16 m))).hi == (cV 0 (makeI (s16 n) (s16 m))).hi) && (((cV (r4 k) (makeI (s16 n) (s16 m))).bad) == ((cV 0 (makeI (s16 n) (s16 m))).bad)))) = true,
     wakesP []]) := by kernel_rfl
theorem sp0_0_leaf (n m k : Int) (hk : r4 k = 0) (q0 : (fineL [cV (r4 k) (makeI (s16 n) (s16 m)), cV (r4 k) (pointI (s16 n)), cV (r4 k) (pointI (s16 m))]) = true) (q1 : (mtS (cV (r4 k) (makeI (s16 n) (s16 m))) (cV (r4 k) (pointI (s16 n)))) = true) (q2 : (mtS (cV (r4 k) (makeI (s16 n) (s16 m))) (cV (r4 k) (pointI (s16 m)))) = true) (q3 : (mtS (cV (r4 k) (makeI (s16 n) (s16 m))) (cV (r4 k) (pointI (md8 n m)))) = true) (q4 : (decide (s16 n > s16 m)) = true) (q5 : (((cV (r4 k) (makeI (s16 n) (s16 m))).lo == (cV 0 (makeI (s16 n) (s16 m))).lo) && (((cV (r4 k) (makeI (s16 n) (s16 m))).hi == (cV 0 (makeI (s16 n) (s16 m))).hi) && (((cV (r4 k) (makeI (s16 n) (s16 m))).bad) == ((cV 0 (makeI (s16 n) (s16 m))).bad)))) = true) : Gives P 4 #[.int .i64 n, .int .i64 m, .int .i64 k] (.bool true) := by
  have R := sp0_0_run n m k
  refine gives_of_run mo R (ps_cons ⟨by decide, by decide⟩ (ps_cons ⟨by decide, by decide⟩ (ps_cons (pa k n m).i (ps_cons ⟨_, rfl⟩ (ps_cons (pa k n m).p (ps_cons ⟨_, rfl⟩ (ps_cons (pa k n m).q (ps_cons ⟨_, rfl⟩ (ps_cons (ivs_ok (by simp)) (ps_cons (neg_f q0) (ps_cons ⟨⟨_, rfl⟩, _, rfl⟩ (ps_cons (neg_f q1) (ps_cons ⟨⟨_, rfl⟩, _, rfl⟩ (ps_cons (neg_f q2) (ps_cons (pa k n m).h (ps_cons ⟨_, rfl⟩ (ps_cons ⟨⟨_, rfl⟩, _, rfl⟩ (ps_cons (neg_f q3) (ps_cons q4 (ps_cons ⟨_, rfl⟩ (ps_cons ⟨_, rfl⟩ (ps_cons hk (ps_cons q5 (ps_cons trivial ps_nil)))))))))))))))))))))))) ?_
  rfl
theorem sp0_1_run (n m k : Int) : runF P EL 1 4 [.int .i64 n, .int .i64 m, .int .i64 k] (.lit :: (.b false :: (.b false :: (.b false :: (.b false :: (.b false :: (.b true :: (.lit :: (.n 0 :: (.b true :: [])))))))))) =
  some (.bool true,
    [inP [.int .i64 n, .int .i64 17179869184],
     inP [.int .i64 m, .int .i64 17179869184],
     nP2 [.int .i64 (s16 n), .int .i64 (s16 m)],
     cP [.int .i64 (r4 k), I (makeI (s16 n) (s16 m))],
     nP1 [.int .i64 (s16 n)],
     cP [.int .i64 (r4 k), I (pointI (s16 n))],
     nP1 [.int .i64 (s16 m)],
     cP [.int .i64 (r4 k), I (pointI (s16 m))],
     fineP [ivs [cV (r4 k) (makeI (s16 n) (s16 m)), cV (r4 k) (pointI (s16 n)), cV (r4 k) (pointI (s16 m))]],
     (!(fineL [cV (r4 k) (makeI (s16 n) (s16 m)), cV (r4 k) (pointI (s16 n)), cV (r4 k) (pointI (s16 m))])) = false,
     iP2 [I (cV (r4 k) (makeI (s16 n) (s16 m))), I (cV (r4 k) (pointI (s16 n)))],
     (!(mtS (cV (r4 k) (makeI (s16 n) (s16 m))) (cV (r4 k) (pointI (s16 n))))) = false,
     iP2 [I (cV (r4 k) (makeI (s16 n) (s16 m))), I (cV (r4 k) (pointI (s16 m)))],
     (!(mtS (cV (r4 k) (makeI (s16 n) (s16 m))) (cV (r4 k) (pointI (s16 m))))) = false,
     nP1 [.int .i64 (md8 n m)],
     cP [.int .i64 (r4 k), I (pointI (md8 n m))],
     iP2 [I (cV (r4 k) (makeI (s16 n) (s16 m))), I (cV (r4 k) (pointI (md8 n m)))],
     (!(mtS (cV (r4 k) (makeI (s16 n) (s16 m))) (cV (r4 k) (pointI (md8 n m))))) = false,
     (decide (s16 n > s16 m)) = false,
     (decide (s16 m > 0)) = true,
     cP [.int .i64 (r4 k), I (makeI (s16 n) (s16 m))],
     iP1 [I (makeI (s16 n) (s16 m))],
     r4 k = 0,
     (((cV (r4 k) (makeI (s16 n) (s16 m))).lo == (cV 0 (makeI (s16 n) (s16 m))).lo) && (((cV (r4 k) (makeI (s16 n) (s16 m))).hi == (cV 0 (makeI (s16 n) (s16 m))).hi) && (((cV (r4 k) (makeI (s16 n) (s16 m))).bad) == ((cV 0 (makeI (s16 n) (s16 m))).bad)))) = true,
     wakesP []]) := by kernel_rfl
theorem sp0_1_leaf (n m k : Int) (hk : r4 k = 0) (q0 : (fineL [cV (r4 k) (makeI (s16 n) (s16 m)), cV (r4 k) (pointI (s16 n)), cV (r4 k) (pointI (s16 m))]) = true) (q1 : (mtS (cV (r4 k) (makeI (s16 n) (s16 m))) (cV (r4 k) (pointI (s16 n)))) = true) (q2 : (mtS (cV (r4 k) (makeI (s16 n) (s16 m))) (cV (r4 k) (pointI (s16 m)))) = true) (q3 : (mtS (cV (r4 k) (makeI (s16 n) (s16 m))) (cV (r4 k) (pointI (md8 n m)))) = true) (q4 : (decide (s16 n > s16 m)) = false) (q5 : (decide (s16 m > 0)) = true) (q6 : (((cV (r4 k) (makeI (s16 n) (s16 m))).lo == (cV 0 (makeI (s16 n) (s16 m))).lo) && (((cV (r4 k) (makeI (s16 n) (s16 m))).hi == (cV 0 (makeI (s16 n) (s16 m))).hi) && (((cV (r4 k) (makeI (s16 n) (s16 m))).bad) == ((cV 0 (makeI (s16 n) (s16 m))).bad)))) = true) : Gives P 4 #[.int .i64 n, .int .i64 m, .int .i64 k] (.bool true) := by
  have R := sp0_1_run n m k
  refine gives_of_run mo R (ps_cons ⟨by decide, by decide⟩ (ps_cons ⟨by decide, by decide⟩ (ps_cons (pa k n m).i (ps_cons ⟨_, rfl⟩ (ps_cons (pa k n m).p (ps_cons ⟨_, rfl⟩ (ps_cons (pa k n m).q (ps_cons ⟨_, rfl⟩ (ps_cons (ivs_ok (by simp)) (ps_cons (neg_f q0) (ps_cons ⟨⟨_, rfl⟩, _, rfl⟩ (ps_cons (neg_f q1) (ps_cons ⟨⟨_, rfl⟩, _, rfl⟩ (ps_cons (neg_f q2) (ps_cons (pa k n m).h (ps_cons ⟨_, rfl⟩ (ps_cons ⟨⟨_, rfl⟩, _, rfl⟩ (ps_cons (neg_f q3) (ps_cons q4 (ps_cons q5 (ps_cons ⟨_, rfl⟩ (ps_cons ⟨_, rfl⟩ (ps_cons hk (ps_cons q6 (ps_cons trivial ps_nil))))))))))))))))))))))))) ?_
  rfl
theorem sp0_2_run (n m k : Int) : runF P EL 1 4 [.int .i64 n, .int .i64 m, .int .i64 k] (.lit :: (.b false :: (.b false :: (.b false :: (.b false :: (.b false :: (.b false :: (.b true :: (.n 0 :: (.b true :: [])))))))))) =
  some (.bool true,
    [inP [.int .i64 n, .int .i64 17179869184],
     inP [.int .i64 m, .int .i64 17179869184],
     nP2 [.int .i64 (s16 n), .int .i64 (s16 m)],
     cP [.int .i64 (r4 k), I (makeI (s16 n) (s16 m))],
     nP1 [.int .i64 (s16 n)],
     cP [.int .i64 (r4 k), I (pointI (s16 n))],
     nP1 [.int .i64 (s16 m)],
     cP [.int .i64 (r4 k), I (pointI (s16 m))],
     fineP [ivs [cV (r4 k) (makeI (s16 n) (s16 m)), cV (r4 k) (pointI (s16 n)), cV (r4 k) (pointI (s16 m))]],
     (!(fineL [cV (r4 k) (makeI (s16 n) (s16 m)), cV (r4 k) (pointI (s16 n)), cV (r4 k) (pointI (s16 m))])) = false,
     iP2 [I (cV (r4 k) (makeI (s16 n) (s16 m))), I (cV (r4 k) (pointI (s16 n)))],
     (!(mtS (cV (r4 k) (makeI (s16 n) (s16 m))) (cV (r4 k) (pointI (s16 n))))) = false,
     iP2 [I (cV (r4 k) (makeI (s16 n) (s16 m))), I (cV (r4 k) (pointI (s16 m)))],
     (!(mtS (cV (r4 k) (makeI (s16 n) (s16 m))) (cV (r4 k) (pointI (s16 m))))) = false,
     nP1 [.int .i64 (md8 n m)],
     cP [.int .i64 (r4 k), I (pointI (md8 n m))],
     iP2 [I (cV (r4 k) (makeI (s16 n) (s16 m))), I (cV (r4 k) (pointI (md8 n m)))],
     (!(mtS (cV (r4 k) (makeI (s16 n) (s16 m))) (cV (r4 k) (pointI (md8 n m))))) = false,
     (decide (s16 n > s16 m)) = false,
     (decide (s16 m > 0)) = false,
     (decide ((cV (r4 k) (pointI (s16 n))).hi ≥ (cV (r4 k) (pointI (s16 m))).lo)) = true,
     cP [.int .i64 (r4 k), I (makeI (s16 n) (s16 m))],
     iP1 [I (makeI (s16 n) (s16 m))],
     r4 k = 0,
     (((cV (r4 k) (makeI (s16 n) (s16 m))).lo == (cV 0 (makeI (s16 n) (s16 m))).lo) && (((cV (r4 k) (makeI (s16 n) (s16 m))).hi == (cV 0 (makeI (s16 n) (s16 m))).hi) && (((cV (r4 k) (makeI (s16 n) (s16 m))).bad) == ((cV 0 (makeI (s16 n) (s16 m))).bad)))) = true,
     wakesP []]) := by kernel_rfl
theorem sp0_2_leaf (n m k : Int) (hk : r4 k = 0) (q0 : (fineL [cV (r4 k) (makeI (s16 n) (s16 m)), cV (r4 k) (pointI (s16 n)), cV (r4 k) (pointI (s16 m))]) = true) (q1 : (mtS (cV (r4 k) (makeI (s16 n) (s16 m))) (cV (r4 k) (pointI (s16 n)))) = true) (q2 : (mtS (cV (r4 k) (makeI (s16 n) (s16 m))) (cV (r4 k) (pointI (s16 m)))) = true) (q3 : (mtS (cV (r4 k) (makeI (s16 n) (s16 m))) (cV (r4 k) (pointI (md8 n m)))) = true) (q4 : (decide (s16 n > s16 m)) = false) (q5 : (decide (s16 m > 0)) = false) (q6 : (decide ((cV (r4 k) (pointI (s16 n))).hi ≥ (cV (r4 k) (pointI (s16 m))).lo)) = true) (q7 : (((cV (r4 k) (makeI (s16 n) (s16 m))).lo == (cV 0 (makeI (s16 n) (s16 m))).lo) && (((cV (r4 k) (makeI (s16 n) (s16 m))).hi == (cV 0 (makeI (s16 n) (s16 m))).hi) && (((cV (r4 k) (makeI (s16 n) (s16 m))).bad) == ((cV 0 (makeI (s16 n) (s16 m))).bad)))) = true) : Gives P 4 #[.int .i64 n, .int .i64 m, .int .i64 k] (.bool true) := by
  have R := sp0_2_run n m k
  refine gives_of_run mo R (ps_cons ⟨by decide, by decide⟩ (ps_cons ⟨by decide, by decide⟩ (ps_cons (pa k n m).i (ps_cons ⟨_, rfl⟩ (ps_cons (pa k n m).p (ps_cons ⟨_, rfl⟩ (ps_cons (pa k n m).q (ps_cons ⟨_, rfl⟩ (ps_cons (ivs_ok (by simp)) (ps_cons (neg_f q0) (ps_cons ⟨⟨_, rfl⟩, _, rfl⟩ (ps_cons (neg_f q1) (ps_cons ⟨⟨_, rfl⟩, _, rfl⟩ (ps_cons (neg_f q2) (ps_cons (pa k n m).h (ps_cons ⟨_, rfl⟩ (ps_cons ⟨⟨_, rfl⟩, _, rfl⟩ (ps_cons (neg_f q3) (ps_cons q4 (ps_cons q5 (ps_cons q6 (ps_cons ⟨_, rfl⟩ (ps_cons ⟨_, rfl⟩ (ps_cons hk (ps_cons q7 (ps_cons trivial ps_nil)))))))))))))))))))))))))) ?_
  rfl
theorem sp0 (n m k : Int) (hk : r4 k = 0) : Gives P 4 #[.int .i64 n, .int .i64 m, .int .i64 k] (.bool true) := by
  have q0 : (fineL [cV (r4 k) (makeI (s16 n) (s16 m)), cV (r4 k) (pointI (s16 n)), cV (r4 k) (pointI (s16 m))]) = true := (pa k n m).f
  have q1 : (mtS (cV (r4 k) (makeI (s16 n) (s16 m))) (cV (r4 k) (pointI (s16 n)))) = true := (pa k n m).x
  have q2 : (mtS (cV (r4 k) (makeI (s16 n) (s16 m))) (cV (r4 k) (pointI (s16 m)))) = true := (pa k n m).y
  have q3 : (mtS (cV (r4 k) (makeI (s16 n) (s16 m))) (cV (r4 k) (pointI (md8 n m)))) = true := (pa k n m).z
  cases q4 : (decide (s16 n > s16 m)) with
  | true =>
    have q5 : (((cV (r4 k) (makeI (s16 n) (s16 m))).lo == (cV 0 (makeI (s16 n) (s16 m))).lo) && (((cV (r4 k) (makeI (s16 n) (s16 m))).hi == (cV 0 (makeI (s16 n) (s16 m))).hi) && (((cV (r4 k) (makeI (s16 n) (s16 m))).bad) == ((cV 0 (makeI (s16 n) (s16 m))).bad)))) = true := (same9 (by rw [hk]))
    exact sp0_0_leaf n m k hk q0 q1 q2 q3 q4 q5
  | false =>
    cases q5 : (decide (s16 m > 0)) with
    | true =>
      have q6 : (((cV (r4 k) (makeI (s16 n) (s16 m))).lo == (cV 0 (makeI (s16 n) (s16 m))).lo) && (((cV (r4 k) (makeI (s16 n) (s16 m))).hi == (cV 0 (makeI (s16 n) (s16 m))).hi) && (((cV (r4 k) (makeI (s16 n) (s16 m))).bad) == ((cV 0 (makeI (s16 n) (s16 m))).bad)))) = true := (same9 (by rw [hk]))
      exact sp0_1_leaf n m k hk q0 q1 q2 q3 q4 q5 q6
    | false =>
      have q6 : (decide ((cV (r4 k) (pointI (s16 n))).hi ≥ (cV (r4 k) (pointI (s16 m))).lo)) = true := (pa k n m).w q4 q5
      have q7 : (((cV (r4 k) (makeI (s16 n) (s16 m))).lo == (cV 0 (makeI (s16 n) (s16 m))).lo) && (((cV (r4 k) (makeI (s16 n) (s16 m))).hi == (cV 0 (makeI (s16 n) (s16 m))).hi) && (((cV (r4 k) (makeI (s16 n) (s16 m))).bad) == ((cV 0 (makeI (s16 n) (s16 m))).bad)))) = true := (same9 (by rw [hk]))
      exact sp0_2_leaf n m k hk q0 q1 q2 q3 q4 q5 q6 q7
theorem sp1_0_run (n m k : Int) : runF P EL 1 4 [.int .i64 n, .int .i64 m, .int .i64 k] (.lit :: (.b false :: (.b false :: (.b false :: (.b false :: (.b true :: (.lit :: (.lit :: (.n 1 :: (.b true :: [])))))))))) =
  some (.bool true,
    [inP [.int .i64 n, .int .i64 17179869184],
     inP [.int .i64 m, .int .i64 17179869184],
     nP2 [.int .i64 (s16 n), .int .i64 (s16 m)],
     cP [.int .i64 (r4 k), I (makeI (s16 n) (s16 m))],
     nP1 [.int .i64 (s16 n)],
     cP [.int .i64 (r4 k), I (pointI (s16 n))],
     nP1 [.int .i64 (s16 m)],
     cP [.int .i64 (r4 k), I (pointI (s16 m))],
     fineP [ivs [cV (r4 k) (makeI (s16 n) (s16 m)), cV (r4 k) (pointI (s16 n)), cV (r4 k) (pointI (s16 m))]],
     (!(fineL [cV (r4 k) (makeI (s16 n) (s16 m)), cV (r4 k) (pointI (s16 n)), cV (r4 k) (pointI (s16 m))])) = false,
     iP2 [I (cV (r4 k) (makeI (s16 n) (s16 m))), I (cV (r4 k) (pointI (s16 n)))],
     (!(mtS (cV (r4 k) (makeI (s16 n) (s16 m))) (cV (r4 k) (pointI (s16 n))))) = false,
     iP2 [I (cV (r4 k) (makeI (s16 n) (s16 m))), I (cV (r4 k) (pointI (s16 m)))],
     (!(mtS (cV (r4 k) (makeI (s16 n) (s16 m))) (cV (r4 k) (pointI (s16 m))))) = false,
     nP1 [.int .i64 (md8 n m)],
     cP [.int .i64 (r4 k), I (pointI (md8 n m))],
     iP2 [I (cV (r4 k) (makeI (s16 n) (s16 m))), I (cV (r4 k) (pointI (md8 n m)))],
     (!(mtS (cV (r4 k) (makeI (s16 n) (s16 m))) (cV (r4 k) (pointI (md8 n m))))) = false,
     (decide (s16 n > s16 m)) = true,
     cP [.int .i64 (r4 k), I (makeI (s16 n) (s16 m))],
     iP1 [I (makeI (s16 n) (s16 m))],
     r4 k = 1,
     (((cV (r4 k) (makeI (s16 n) (s16 m))).lo == (cV 1 (makeI (s16 n) (s16 m))).lo) && (((cV (r4 k) (makeI (s16 n) (s16 m))).hi == (cV 1 (makeI (s16 n) (s16 m))).hi) && (((cV (r4 k) (makeI (s16 n) (s16 m))).bad) == ((cV 1 (makeI (s16 n) (s16 m))).bad)))) = true,
     wakesP []]) := by kernel_rfl
theorem sp1_0_leaf (n m k : Int) (hk : r4 k = 1) (q0 : (fineL [cV (r4 k) (makeI (s16 n) (s16 m)), cV (r4 k) (pointI (s16 n)), cV (r4 k) (pointI (s16 m))]) = true) (q1 : (mtS (cV (r4 k) (makeI (s16 n) (s16 m))) (cV (r4 k) (pointI (s16 n)))) = true) (q2 : (mtS (cV (r4 k) (makeI (s16 n) (s16 m))) (cV (r4 k) (pointI (s16 m)))) = true) (q3 : (mtS (cV (r4 k) (makeI (s16 n) (s16 m))) (cV (r4 k) (pointI (md8 n m)))) = true) (q4 : (decide (s16 n > s16 m)) = true) (q5 : (((cV (r4 k) (makeI (s16 n) (s16 m))).lo == (cV 1 (makeI (s16 n) (s16 m))).lo) && (((cV (r4 k) (makeI (s16 n) (s16 m))).hi == (cV 1 (makeI (s16 n) (s16 m))).hi) && (((cV (r4 k) (makeI (s16 n) (s16 m))).bad) == ((cV 1 (makeI (s16 n) (s16 m))).bad)))) = true) : Gives P 4 #[.int .i64 n, .int .i64 m, .int .i64 k] (.bool true) := by
  have R := sp1_0_run n m k
  refine gives_of_run mo R (ps_cons ⟨by decide, by decide⟩ (ps_cons ⟨by decide, by decide⟩ (ps_cons (pa k n m).i (ps_cons ⟨_, rfl⟩ (ps_cons (pa k n m).p (ps_cons ⟨_, rfl⟩ (ps_cons (pa k n m).q (ps_cons ⟨_, rfl⟩ (ps_cons (ivs_ok (by simp)) (ps_cons (neg_f q0) (ps_cons ⟨⟨_, rfl⟩, _, rfl⟩ (ps_cons (neg_f q1) (ps_cons ⟨⟨_, rfl⟩, _, rfl⟩ (ps_cons (neg_f q2) (ps_cons (pa k n m).h (ps_cons ⟨_, rfl⟩ (ps_cons ⟨⟨_, rfl⟩, _, rfl⟩ (ps_cons (neg_f q3) (ps_cons q4 (ps_cons ⟨_, rfl⟩ (ps_cons ⟨_, rfl⟩ (ps_cons hk (ps_cons q5 (ps_cons trivial ps_nil)))))))))))))))))))))))) ?_
  rfl
theorem sp1_1_run (n m k : Int) : runF P EL 1 4 [.int .i64 n, .int .i64 m, .int .i64 k] (.lit :: (.b false :: (.b false :: (.b false :: (.b false :: (.b false :: (.b true :: (.lit :: (.n 1 :: (.b true :: [])))))))))) =
  some (.bool true,
    [inP [.int .i64 n, .int .i64 17179869184],
     inP [.int .i64 m, .int .i64 17179869184],
     nP2 [.int .i64 (s16 n), .int .i64 (s16 m)],
     cP [.int .i64 (r4 k), I (makeI (s16 n) (s16 m))],
     nP1 [.int .i64 (s16 n)],
     cP [.int .i64 (r4 k), I (pointI (s16 n))],
     nP1 [.int .i64 (s16 m)],
     cP [.int .i64 (r4 k), I (pointI (s16 m))],
     fineP [ivs [cV (r4 k) (makeI (s16 n) (s16 m)), cV (r4 k) (pointI (s16 n)), cV (r4 k) (pointI (s16 m))]],
     (!(fineL [cV (r4 k) (makeI (s16 n) (s16 m)), cV (r4 k) (pointI (s16 n)), cV (r4 k) (pointI (s16 m))])) = false,
     iP2 [I (cV (r4 k) (makeI (s16 n) (s16 m))), I (cV (r4 k) (pointI (s16 n)))],
     (!(mtS (cV (r4 k) (makeI (s16 n) (s16 m))) (cV (r4 k) (pointI (s16 n))))) = false,
     iP2 [I (cV (r4 k) (makeI (s16 n) (s16 m))), I (cV (r4 k) (pointI (s16 m)))],
     (!(mtS (cV (r4 k) (makeI (s16 n) (s16 m))) (cV (r4 k) (pointI (s16 m))))) = false,
     nP1 [.int .i64 (md8 n m)],
     cP [.int .i64 (r4 k), I (pointI (md8 n m))],
     iP2 [I (cV (r4 k) (makeI (s16 n) (s16 m))), I (cV (r4 k) (pointI (md8 n m)))],
     (!(mtS (cV (r4 k) (makeI (s16 n) (s16 m))) (cV (r4 k) (pointI (md8 n m))))) = false,
     (decide (s16 n > s16 m)) = false,
     (decide (s16 m > 0)) = true,
     cP [.int .i64 (r4 k), I (makeI (s16 n) (s16 m))],
     iP1 [I (makeI (s16 n) (s16 m))],
     r4 k = 1,
     (((cV (r4 k) (makeI (s16 n) (s16 m))).lo == (cV 1 (makeI (s16 n) (s16 m))).lo) && (((cV (r4 k) (makeI (s16 n) (s16 m))).hi == (cV 1 (makeI (s16 n) (s16 m))).hi) && (((cV (r4 k) (makeI (s16 n) (s16 m))).bad) == ((cV 1 (makeI (s16 n) (s16 m))).bad)))) = true,
     wakesP []]) := by kernel_rfl
theorem sp1_1_leaf (n m k : Int) (hk : r4 k = 1) (q0 : (fineL [cV (r4 k) (makeI (s16 n) (s16 m)), cV (r4 k) (pointI (s16 n)), cV (r4 k) (pointI (s16 m))]) = true) (q1 : (mtS (cV (r4 k) (makeI (s16 n) (s16 m))) (cV (r4 k) (pointI (s16 n)))) = true) (q2 : (mtS (cV (r4 k) (makeI (s16 n) (s16 m))) (cV (r4 k) (pointI (s16 m)))) = true) (q3 : (mtS (cV (r4 k) (makeI (s16 n) (s16 m))) (cV (r4 k) (pointI (md8 n m)))) = true) (q4 : (decide (s16 n > s16 m)) = false) (q5 : (decide (s16 m > 0)) = true) (q6 : (((cV (r4 k) (makeI (s16 n) (s16 m))).lo == (cV 1 (makeI (s16 n) (s16 m))).lo) && (((cV (r4 k) (makeI (s16 n) (s16 m))).hi == (cV 1 (makeI (s16 n) (s16 m))).hi) && (((cV (r4 k) (makeI (s16 n) (s16 m))).bad) == ((cV 1 (makeI (s16 n) (s16 m))).bad)))) = true) : Gives P 4 #[.int .i64 n, .int .i64 m, .int .i64 k] (.bool true) := by
  have R := sp1_1_run n m k
  refine gives_of_run mo R (ps_cons ⟨by decide, by decide⟩ (ps_cons ⟨by decide, by decide⟩ (ps_cons (pa k n m).i (ps_cons ⟨_, rfl⟩ (ps_cons (pa k n m).p (ps_cons ⟨_, rfl⟩ (ps_cons (pa k n m).q (ps_cons ⟨_, rfl⟩ (ps_cons (ivs_ok (by simp)) (ps_cons (neg_f q0) (ps_cons ⟨⟨_, rfl⟩, _, rfl⟩ (ps_cons (neg_f q1) (ps_cons ⟨⟨_, rfl⟩, _, rfl⟩ (ps_cons (neg_f q2) (ps_cons (pa k n m).h (ps_cons ⟨_, rfl⟩ (ps_cons ⟨⟨_, rfl⟩, _, rfl⟩ (ps_cons (neg_f q3) (ps_cons q4 (ps_cons q5 (ps_cons ⟨_, rfl⟩ (ps_cons ⟨_, rfl⟩ (ps_cons hk (ps_cons q6 (ps_cons trivial ps_nil))))))))))))))))))))))))) ?_
  rfl
theorem sp1_2_run (n m k : Int) : runF P EL 1 4 [.int .i64 n, .int .i64 m, .int .i64 k] (.lit :: (.b false :: (.b false :: (.b false :: (.b false :: (.b false :: (.b false :: (.b true :: (.n 1 :: (.b true :: [])))))))))) =
  some (.bool true,
    [inP [.int .i64 n, .int .i64 17179869184],
     inP [.int .i64 m, .int .i64 17179869184],
     nP2 [.int .i64 (s16 n), .int .i64 (s16 m)],
     cP [.int .i64 (r4 k), I (makeI (s16 n) (s16 m))],
     nP1 [.int .i64 (s16 n)],
     cP [.int .i64 (r4 k), I (pointI (s16 n))],
     nP1 [.int .i64 (s16 m)],
     cP [.int .i64 (r4 k), I (pointI (s16 m))],
     fineP [ivs [cV (r4 k) (makeI (s16 n) (s16 m)), cV (r4 k) (pointI (s16 n)), cV (r4 k) (pointI (s16 m))]],
     (!(fineL [cV (r4 k) (makeI (s16 n) (s16 m)), cV (r4 k) (pointI (s16 n)), cV (r4 k) (pointI (s16 m))])) = false,
     iP2 [I (cV (r4 k) (makeI (s16 n) (s16 m))), I (cV (r4 k) (pointI (s16 n)))],
     (!(mtS (cV (r4 k) (makeI (s16 n) (s16 m))) (cV (r4 k) (pointI (s16 n))))) = false,
     iP2 [I (cV (r4 k) (makeI (s16 n) (s16 m))), I (cV (r4 k) (pointI (s16 m)))],
     (!(mtS (cV (r4 k) (makeI (s16 n) (s16 m))) (cV (r4 k) (pointI (s16 m))))) = false,
     nP1 [.int .i64 (md8 n m)],
     cP [.int .i64 (r4 k), I (pointI (md8 n m))],
     iP2 [I (cV (r4 k) (makeI (s16 n) (s16 m))), I (cV (r4 k) (pointI (md8 n m)))],
     (!(mtS (cV (r4 k) (makeI (s16 n) (s16 m))) (cV (r4 k) (pointI (md8 n m))))) = false,
     (decide (s16 n > s16 m)) = false,
     (decide (s16 m > 0)) = false,
     (decide ((cV (r4 k) (pointI (s16 n))).hi ≥ (cV (r4 k) (pointI (s16 m))).lo)) = true,
     cP [.int .i64 (r4 k), I (makeI (s16 n) (s16 m))],
     iP1 [I (makeI (s16 n) (s16 m))],
     r4 k = 1,
     (((cV (r4 k) (makeI (s16 n) (s16 m))).lo == (cV 1 (makeI (s16 n) (s16 m))).lo) && (((cV (r4 k) (makeI (s16 n) (s16 m))).hi == (cV 1 (makeI (s16 n) (s16 m))).hi) && (((cV (r4 k) (makeI (s16 n) (s16 m))).bad) == ((cV 1 (makeI (s16 n) (s16 m))).bad)))) = true,
     wakesP []]) := by kernel_rfl
theorem sp1_2_leaf (n m k : Int) (hk : r4 k = 1) (q0 : (fineL [cV (r4 k) (makeI (s16 n) (s16 m)), cV (r4 k) (pointI (s16 n)), cV (r4 k) (pointI (s16 m))]) = true) (q1 : (mtS (cV (r4 k) (makeI (s16 n) (s16 m))) (cV (r4 k) (pointI (s16 n)))) = true) (q2 : (mtS (cV (r4 k) (makeI (s16 n) (s16 m))) (cV (r4 k) (pointI (s16 m)))) = true) (q3 : (mtS (cV (r4 k) (makeI (s16 n) (s16 m))) (cV (r4 k) (pointI (md8 n m)))) = true) (q4 : (decide (s16 n > s16 m)) = false) (q5 : (decide (s16 m > 0)) = false) (q6 : (decide ((cV (r4 k) (pointI (s16 n))).hi ≥ (cV (r4 k) (pointI (s16 m))).lo)) = true) (q7 : (((cV (r4 k) (makeI (s16 n) (s16 m))).lo == (cV 1 (makeI (s16 n) (s16 m))).lo) && (((cV (r4 k) (makeI (s16 n) (s16 m))).hi == (cV 1 (makeI (s16 n) (s16 m))).hi) && (((cV (r4 k) (makeI (s16 n) (s16 m))).bad) == ((cV 1 (makeI (s16 n) (s16 m))).bad)))) = true) : Gives P 4 #[.int .i64 n, .int .i64 m, .int .i64 k] (.bool true) := by
  have R := sp1_2_run n m k
  refine gives_of_run mo R (ps_cons ⟨by decide, by decide⟩ (ps_cons ⟨by decide, by decide⟩ (ps_cons (pa k n m).i (ps_cons ⟨_, rfl⟩ (ps_cons (pa k n m).p (ps_cons ⟨_, rfl⟩ (ps_cons (pa k n m).q (ps_cons ⟨_, rfl⟩ (ps_cons (ivs_ok (by simp)) (ps_cons (neg_f q0) (ps_cons ⟨⟨_, rfl⟩, _, rfl⟩ (ps_cons (neg_f q1) (ps_cons ⟨⟨_, rfl⟩, _, rfl⟩ (ps_cons (neg_f q2) (ps_cons (pa k n m).h (ps_cons ⟨_, rfl⟩ (ps_cons ⟨⟨_, rfl⟩, _, rfl⟩ (ps_cons (neg_f q3) (ps_cons q4 (ps_cons q5 (ps_cons q6 (ps_cons ⟨_, rfl⟩ (ps_cons ⟨_, rfl⟩ (ps_cons hk (ps_cons q7 (ps_cons trivial ps_nil)))))))))))))))))))))))))) ?_
  rfl
theorem sp1 (n m k : Int) (hk : r4 k = 1) : Gives P 4 #[.int .i64 n, .int .i64 m, .int .i64 k] (.bool true) := by
  have q0 : (fineL [cV (r4 k) (makeI (s16 n) (s16 m)), cV (r4 k) (pointI (s16 n)), cV (r4 k) (pointI (s16 m))]) = true := (pa k n m).f
  have q1 : (mtS (cV (r4 k) (makeI (s16 n) (s16 m))) (cV (r4 k) (pointI (s16 n)))) = true := (pa k n m).x
  have q2 : (mtS (cV (r4 k) (makeI (s16 n) (s16 m))) (cV (r4 k) (pointI (s16 m)))) = true := (pa k n m).y
  have q3 : (mtS (cV (r4 k) (makeI (s16 n) (s16 m))) (cV (r4 k) (pointI (md8 n m)))) = true := (pa k n m).z
  cases q4 : (decide (s16 n > s16 m)) with
  | true =>
    have q5 : (((cV (r4 k) (makeI (s16 n) (s16 m))).lo == (cV 1 (makeI (s16 n) (s16 m))).lo) && (((cV (r4 k) (makeI (s16 n) (s16 m))).hi == (cV 1 (makeI (s16 n) (s16 m))).hi) && (((cV (r4 k) (makeI (s16 n) (s16 m))).bad) == ((cV 1 (makeI (s16 n) (s16 m))).bad)))) = true := (same9 (by rw [hk]))
    exact sp1_0_leaf n m k hk q0 q1 q2 q3 q4 q5
  | false =>
    cases q5 : (decide (s16 m > 0)) with
    | true =>
      have q6 : (((cV (r4 k) (makeI (s16 n) (s16 m))).lo == (cV 1 (makeI (s16 n) (s16 m))).lo) && (((cV (r4 k) (makeI (s16 n) (s16 m))).hi == (cV 1 (makeI (s16 n) (s16 m))).hi) && (((cV (r4 k) (makeI (s16 n) (s16 m))).bad) == ((cV 1 (makeI (s16 n) (s16 m))).bad)))) = true := (same9 (by rw [hk]))
      exact sp1_1_leaf n m k hk q0 q1 q2 q3 q4 q5 q6
    | false =>
      have q6 : (decide ((cV (r4 k) (pointI (s16 n))).hi ≥ (cV (r4 k) (pointI (s16 m))).lo)) = true := (pa k n m).w q4 q5
      have q7 : (((cV (r4 k) (makeI (s16 n) (s16 m))).lo == (cV 1 (makeI (s16 n) (s16 m))).lo) && (((cV (r4 k) (makeI (s16 n) (s16 m))).hi == (cV 1 (makeI (s16 n) (s16 m))).hi) && (((cV (r4 k) (makeI (s16 n) (s16 m))).bad) == ((cV 1 (makeI (s16 n) (s16 m))).bad)))) = true := (same9 (by rw [hk]))
      exact sp1_2_leaf n m k hk q0 q1 q2 q3 q4 q5 q6 q7
theorem sp2_0_run (n m k : Int) : runF P EL 1 4 [.int .i64 n, .int .i64 m, .int .i64 k] (.lit :: (.b false :: (.b false :: (.b false :: (.b false :: (.b true :: (.lit :: (.lit :: (.n 2 :: (.b true :: [])))))))))) =
  some (.bool true,
    [inP [.int .i64 n, .int .i64 17179869184],
     inP [.int .i64 m, .int .i64 17179869184],
     nP2 [.int .i64 (s16 n), .int .i64 (s16 m)],
     cP [.int .i64 (r4 k), I (makeI (s16 n) (s16 m))],
     nP1 [.int .i64 (s16 n)],
     cP [.int .i64 (r4 k), I (pointI (s16 n))],
     nP1 [.int .i64 (s16 m)],
     cP [.int .i64 (r4 k), I (pointI (s16 m))],
     fineP [ivs [cV (r4 k) (makeI (s16 n) (s16 m)), cV (r4 k) (pointI (s16 n)), cV (r4 k) (pointI (s16 m))]],
     (!(fineL [cV (r4 k) (makeI (s16 n) (s16 m)), cV (r4 k) (pointI (s16 n)), cV (r4 k) (pointI (s16 m))])) = false,
     iP2 [I (cV (r4 k) (makeI (s16 n) (s16 m))), I (cV (r4 k) (pointI (s16 n)))],
     (!(mtS (cV (r4 k) (makeI (s16 n) (s16 m))) (cV (r4 k) (pointI (s16 n))))) = false,
     iP2 [I (cV (r4 k) (makeI (s16 n) (s16 m))), I (cV (r4 k) (pointI (s16 m)))],
     (!(mtS (cV (r4 k) (makeI (s16 n) (s16 m))) (cV (r4 k) (pointI (s16 m))))) = false,
     nP1 [.int .i64 (md8 n m)],
     cP [.int .i64 (r4 k), I (pointI (md8 n m))],
     iP2 [I (cV (r4 k) (makeI (s16 n) (s16 m))), I (cV (r4 k) (pointI (md8 n m)))],
     (!(mtS (cV (r4 k) (makeI (s16 n) (s16 m))) (cV (r4 k) (pointI (md8 n m))))) = false,
     (decide (s16 n > s16 m)) = true,
     cP [.int .i64 (r4 k), I (makeI (s16 n) (s16 m))],
     iP1 [I (makeI (s16 n) (s16 m))],
     r4 k = 2,
     (((cV (r4 k) (makeI (s16 n) (s16 m))).lo == (cV 2 (makeI (s16 n) (s16 m))).lo) && (((cV (r4 k) (makeI (s16 n) (s16 m))).hi == (cV 2 (makeI (s16 n) (s16 m))).hi) && (((cV (r4 k) (makeI (s16 n) (s16 m))).bad) == ((cV 2 (makeI (s16 n) (s16 m))).bad)))) = true,
     wakesP []]) := by kernel_rfl
theorem sp2_0_leaf (n m k : Int) (hk : r4 k = 2) (q0 : (fineL [cV (r4 k) (makeI (s16 n) (s16 m)), cV (r4 k) (pointI (s16 n)), cV (r4 k) (pointI (s16 m))]) = true) (q1 : (mtS (cV (r4 k) (makeI (s16 n) (s16 m))) (cV (r4 k) (pointI (s16 n)))) = true) (q2 : (mtS (cV (r4 k) (makeI (s16 n) (s16 m))) (cV (r4 k) (pointI (s16 m)))) = true) (q3 : (mtS (cV (r4 k) (makeI (s16 n) (s16 m))) (cV (r4 k) (pointI (md8 n m)))) = true) (q4 : (decide (s16 n > s16 m)) = true) (q5 : (((cV (r4 k) (makeI (s16 n) (s16 m))).lo == (cV 2 (makeI (s16 n) (s16 m))).lo) && (((cV (r4 k) (makeI (s16 n) (s16 m))).hi == (cV 2 (makeI (s16 n) (s16 m))).hi) && (((cV (r4 k) (makeI (s16 n) (s16 m))).bad) == ((cV 2 (makeI (s16 n) (s16 m))).bad)))) = true) : Gives P 4 #[.int .i64 n, .int .i64 m, .int .i64 k] (.bool true) := by
  have R := sp2_0_run n m k
  refine gives_of_run mo R (ps_cons ⟨by decide, by decide⟩ (ps_cons ⟨by decide, by decide⟩ (ps_cons (pa k n m).i (ps_cons ⟨_, rfl⟩ (ps_cons (pa k n m).p (ps_cons ⟨_, rfl⟩ (ps_cons (pa k n m).q (ps_cons ⟨_, rfl⟩ (ps_cons (ivs_ok (by simp)) (ps_cons (neg_f q0) (ps_cons ⟨⟨_, rfl⟩, _, rfl⟩ (ps_cons (neg_f q1) (ps_cons ⟨⟨_, rfl⟩, _, rfl⟩ (ps_cons (neg_f q2) (ps_cons (pa k n m).h (ps_cons ⟨_, rfl⟩ (ps_cons ⟨⟨_, rfl⟩, _, rfl⟩ (ps_cons (neg_f q3) (ps_cons q4 (ps_cons ⟨_, rfl⟩ (ps_cons ⟨_, rfl⟩ (ps_cons hk (ps_cons q5 (ps_cons trivial ps_nil)))))))))))))))))))))))) ?_
  rfl
theorem sp2_1_run (n m k : Int) : runF P EL 1 4 [.int .i64 n, .int .i64 m, .int .i64 k] (.lit :: (.b false :: (.b false :: (.b false :: (.b false :: (.b false :: (.b true :: (.lit :: (.n 2 :: (.b true :: [])))))))))) =
  some (.bool true,
    [inP [.int .i64 n, .int .i64 17179869184],
     inP [.int .i64 m, .int .i64 17179869184],
     nP2 [.int .i64 (s16 n), .int .i64 (s16 m)],
     cP [.int .i64 (r4 k), I (makeI (s16 n) (s16 m))],
     nP1 [.int .i64 (s16 n)],
     cP [.int .i64 (r4 k), I (pointI (s16 n))],
     nP1 [.int .i64 (s16 m)],
     cP [.int .i64 (r4 k), I (pointI (s16 m))],
     fineP [ivs [cV (r4 k) (makeI (s16 n) (s16 m)), cV (r4 k) (pointI (s16 n)), cV (r4 k) (pointI (s16 m))]],
     (!(fineL [cV (r4 k) (makeI (s16 n) (s16 m)), cV (r4 k) (pointI (s16 n)), cV (r4 k) (pointI (s16 m))])) = false,
     iP2 [I (cV (r4 k) (makeI (s16 n) (s16 m))), I (cV (r4 k) (pointI (s16 n)))],
     (!(mtS (cV (r4 k) (makeI (s16 n) (s16 m))) (cV (r4 k) (pointI (s16 n))))) = false,
     iP2 [I (cV (r4 k) (makeI (s16 n) (s16 m))), I (cV (r4 k) (pointI (s16 m)))],
     (!(mtS (cV (r4 k) (makeI (s16 n) (s16 m))) (cV (r4 k) (pointI (s16 m))))) = false,
     nP1 [.int .i64 (md8 n m)],
     cP [.int .i64 (r4 k), I (pointI (md8 n m))],
     iP2 [I (cV (r4 k) (makeI (s16 n) (s16 m))), I (cV (r4 k) (pointI (md8 n m)))],
     (!(mtS (cV (r4 k) (makeI (s16 n) (s16 m))) (cV (r4 k) (pointI (md8 n m))))) = false,
     (decide (s16 n > s16 m)) = false,
     (decide (s16 m > 0)) = true,
     cP [.int .i64 (r4 k), I (makeI (s16 n) (s16 m))],
     iP1 [I (makeI (s16 n) (s16 m))],
     r4 k = 2,
     (((cV (r4 k) (makeI (s16 n) (s16 m))).lo == (cV 2 (makeI (s16 n) (s16 m))).lo) && (((cV (r4 k) (makeI (s16 n) (s16 m))).hi == (cV 2 (makeI (s16 n) (s16 m))).hi) && (((cV (r4 k) (makeI (s16 n) (s16 m))).bad) == ((cV 2 (makeI (s16 n) (s16 m))).bad)))) = true,
     wakesP []]) := by kernel_rfl
theorem sp2_1_leaf (n m k : Int) (hk : r4 k = 2) (q0 : (fineL [cV (r4 k) (makeI (s16 n) (s16 m)), cV (r4 k) (pointI (s16 n)), cV (r4 k) (pointI (s16 m))]) = true) (q1 : (mtS (cV (r4 k) (makeI (s16 n) (s16 m))) (cV (r4 k) (pointI (s16 n)))) = true) (q2 : (mtS (cV (r4 k) (makeI (s16 n) (s16 m))) (cV (r4 k) (pointI (s16 m)))) = true) (q3 : (mtS (cV (r4 k) (makeI (s16 n) (s16 m))) (cV (r4 k) (pointI (md8 n m)))) = true) (q4 : (decide (s16 n > s16 m)) = false) (q5 : (decide (s16 m > 0)) = true) (q6 : (((cV (r4 k) (makeI (s16 n) (s16 m))).lo == (cV 2 (makeI (s16 n) (s16 m))).lo) && (((cV (r4 k) (makeI (s16 n) (s16 m))).hi == (cV 2 (makeI (s16 n) (s16 m))).hi) && (((cV (r4 k) (makeI (s16 n) (s16 m))).bad) == ((cV 2 (makeI (s16 n) (s16 m))).bad)))) = true) : Gives P 4 #[.int .i64 n, .int .i64 m, .int .i64 k] (.bool true) := by
  have R := sp2_1_run n m k
  refine gives_of_run mo R (ps_cons ⟨by decide, by decide⟩ (ps_cons ⟨by decide, by decide⟩ (ps_cons (pa k n m).i (ps_cons ⟨_, rfl⟩ (ps_cons (pa k n m).p (ps_cons ⟨_, rfl⟩ (ps_cons (pa k n m).q (ps_cons ⟨_, rfl⟩ (ps_cons (ivs_ok (by simp)) (ps_cons (neg_f q0) (ps_cons ⟨⟨_, rfl⟩, _, rfl⟩ (ps_cons (neg_f q1) (ps_cons ⟨⟨_, rfl⟩, _, rfl⟩ (ps_cons (neg_f q2) (ps_cons (pa k n m).h (ps_cons ⟨_, rfl⟩ (ps_cons ⟨⟨_, rfl⟩, _, rfl⟩ (ps_cons (neg_f q3) (ps_cons q4 (ps_cons q5 (ps_cons ⟨_, rfl⟩ (ps_cons ⟨_, rfl⟩ (ps_cons hk (ps_cons q6 (ps_cons trivial ps_nil))))))))))))))))))))))))) ?_
  rfl
theorem sp2_2_run (n m k : Int) : runF P EL 1 4 [.int .i64 n, .int .i64 m, .int .i64 k] (.lit :: (.b false :: (.b false :: (.b false :: (.b false :: (.b false :: (.b false :: (.b true :: (.n 2 :: (.b true :: [])))))))))) =
  some (.bool true,
    [inP [.int .i64 n, .int .i64 17179869184],
     inP [.int .i64 m, .int .i64 17179869184],
     nP2 [.int .i64 (s16 n), .int .i64 (s16 m)],
     cP [.int .i64 (r4 k), I (makeI (s16 n) (s16 m))],
     nP1 [.int .i64 (s16 n)],
     cP [.int .i64 (r4 k), I (pointI (s16 n))],
     nP1 [.int .i64 (s16 m)],
     cP [.int .i64 (r4 k), I (pointI (s16 m))],
     fineP [ivs [cV (r4 k) (makeI (s16 n) (s16 m)), cV (r4 k) (pointI (s16 n)), cV (r4 k) (pointI (s16 m))]],
     (!(fineL [cV (r4 k) (makeI (s16 n) (s16 m)), cV (r4 k) (pointI (s16 n)), cV (r4 k) (pointI (s16 m))])) = false,
     iP2 [I (cV (r4 k) (makeI (s16 n) (s16 m))), I (cV (r4 k) (pointI (s16 n)))],
     (!(mtS (cV (r4 k) (makeI (s16 n) (s16 m))) (cV (r4 k) (pointI (s16 n))))) = false,
     iP2 [I (cV (r4 k) (makeI (s16 n) (s16 m))), I (cV (r4 k) (pointI (s16 m)))],
     (!(mtS (cV (r4 k) (makeI (s16 n) (s16 m))) (cV (r4 k) (pointI (s16 m))))) = false,
     nP1 [.int .i64 (md8 n m)],
     cP [.int .i64 (r4 k), I (pointI (md8 n m))],
     iP2 [I (cV (r4 k) (makeI (s16 n) (s16 m))), I (cV (r4 k) (pointI (md8 n m)))],
     (!(mtS (cV (r4 k) (makeI (s16 n) (s16 m))) (cV (r4 k) (pointI (md8 n m))))) = false,
     (decide (s16 n > s16 m)) = false,
     (decide (s16 m > 0)) = false,
     (decide ((cV (r4 k) (pointI (s16 n))).hi ≥ (cV (r4 k) (pointI (s16 m))).lo)) = true,
     cP [.int .i64 (r4 k), I (makeI (s16 n) (s16 m))],
     iP1 [I (makeI (s16 n) (s16 m))],
     r4 k = 2,
     (((cV (r4 k) (makeI (s16 n) (s16 m))).lo == (cV 2 (makeI (s16 n) (s16 m))).lo) && (((cV (r4 k) (makeI (s16 n) (s16 m))).hi == (cV 2 (makeI (s16 n) (s16 m))).hi) && (((cV (r4 k) (makeI (s16 n) (s16 m))).bad) == ((cV 2 (makeI (s16 n) (s16 m))).bad)))) = true,
     wakesP []]) := by kernel_rfl
theorem sp2_2_leaf (n m k : Int) (hk : r4 k = 2) (q0 : (fineL [cV (r4 k) (makeI (s16 n) (s16 m)), cV (r4 k) (pointI (s16 n)), cV (r4 k) (pointI (s16 m))]) = true) (q1 : (mtS (cV (r4 k) (makeI (s16 n) (s16 m))) (cV (r4 k) (pointI (s16 n)))) = true) (q2 : (mtS (cV (r4 k) (makeI (s16 n) (s16 m))) (cV (r4 k) (pointI (s16 m)))) = true) (q3 : (mtS (cV (r4 k) (makeI (s16 n) (s16 m))) (cV (r4 k) (pointI (md8 n m)))) = true) (q4 : (decide (s16 n > s16 m)) = false) (q5 : (decide (s16 m > 0)) = false) (q6 : (decide ((cV (r4 k) (pointI (s16 n))).hi ≥ (cV (r4 k) (pointI (s16 m))).lo)) = true) (q7 : (((cV (r4 k) (makeI (s16 n) (s16 m))).lo == (cV 2 (makeI (s16 n) (s16 m))).lo) && (((cV (r4 k) (makeI (s16 n) (s16 m))).hi == (cV 2 (makeI (s16 n) (s16 m))).hi) && (((cV (r4 k) (makeI (s16 n) (s16 m))).bad) == ((cV 2 (makeI (s16 n) (s16 m))).bad)))) = true) : Gives P 4 #[.int .i64 n, .int .i64 m, .int .i64 k] (.bool true) := by
  have R := sp2_2_run n m k
  refine gives_of_run mo R (ps_cons ⟨by decide, by decide⟩ (ps_cons ⟨by decide, by decide⟩ (ps_cons (pa k n m).i (ps_cons ⟨_, rfl⟩ (ps_cons (pa k n m).p (ps_cons ⟨_, rfl⟩ (ps_cons (pa k n m).q (ps_cons ⟨_, rfl⟩ (ps_cons (ivs_ok (by simp)) (ps_cons (neg_f q0) (ps_cons ⟨⟨_, rfl⟩, _, rfl⟩ (ps_cons (neg_f q1) (ps_cons ⟨⟨_, rfl⟩, _, rfl⟩ (ps_cons (neg_f q2) (ps_cons (pa k n m).h (ps_cons ⟨_, rfl⟩ (ps_cons ⟨⟨_, rfl⟩, _, rfl⟩ (ps_cons (neg_f q3) (ps_cons q4 (ps_cons q5 (ps_cons q6 (ps_cons ⟨_, rfl⟩ (ps_cons ⟨_, rfl⟩ (ps_cons hk (ps_cons q7 (ps_cons trivial ps_nil)))))))))))))))))))))))))) ?_
  rfl
theorem sp2 (n m k : Int) (hk : r4 k = 2) : Gives P 4 #[.int .i64 n, .int .i64 m, .int .i64 k] (.bool true) := by
  have q0 : (fineL [cV (r4 k) (makeI (s16 n) (s16 m)), cV (r4 k) (pointI (s16 n)), cV (r4 k) (pointI (s16 m))]) = true := (pa k n m).f
  have q1 : (mtS (cV (r4 k) (makeI (s16 n) (s16 m))) (cV (r4 k) (pointI (s16 n)))) = true := (pa k n m).x
  have q2 : (mtS (cV (r4 k) (makeI (s16 n) (s16 m))) (cV (r4 k) (pointI (s16 m)))) = true := (pa k n m).y
  have q3 : (mtS (cV (r4 k) (makeI (s16 n) (s16 m))) (cV (r4 k) (pointI (md8 n m)))) = true := (pa k n m).z
  cases q4 : (decide (s16 n > s16 m)) with
  | true =>
    have q5 : (((cV (r4 k) (makeI (s16 n) (s16 m))).lo == (cV 2 (makeI (s16 n) (s16 m))).lo) && (((cV (r4 k) (makeI (s16 n) (s16 m))).hi == (cV 2 (makeI (s16 n) (s16 m))).hi) && (((cV (r4 k) (makeI (s16 n) (s16 m))).bad) == ((cV 2 (makeI (s16 n) (s16 m))).bad)))) = true := (same9 (by rw [hk]))
    exact sp2_0_leaf n m k hk q0 q1 q2 q3 q4 q5
  | false =>
    cases q5 : (decide (s16 m > 0)) with
    | true =>
      have q6 : (((cV (r4 k) (makeI (s16 n) (s16 m))).lo == (cV 2 (makeI (s16 n) (s16 m))).lo) && (((cV (r4 k) (makeI (s16 n) (s16 m))).hi == (cV 2 (makeI (s16 n) (s16 m))).hi) && (((cV (r4 k) (makeI (s16 n) (s16 m))).bad) == ((cV 2 (makeI (s16 n) (s16 m))).bad)))) = true := (same9 (by rw [hk]))
      exact sp2_1_leaf n m k hk q0 q1 q2 q3 q4 q5 q6
    | false =>
      have q6 : (decide ((cV (r4 k) (pointI (s16 n))).hi ≥ (cV (r4 k) (pointI (s16 m))).lo)) = true := (pa k n m).w q4 q5
      have q7 : (((cV (r4 k) (makeI (s16 n) (s16 m))).lo == (cV 2 (makeI (s16 n) (s16 m))).lo) && (((cV (r4 k) (makeI (s16 n) (s16 m))).hi == (cV 2 (makeI (s16 n) (s16 m))).hi) && (((cV (r4 k) (makeI (s16 n) (s16 m))).bad) == ((cV 2 (makeI (s16 n) (s16 m))).bad)))) = true := (same9 (by rw [hk]))
      exact sp2_2_leaf n m k hk q0 q1 q2 q3 q4 q5 q6 q7
theorem sp3_0_run (n m k : Int) : runF P EL 1 4 [.int .i64 n, .int .i64 m, .int .i64 k] (.lit :: (.b false :: (.b false :: (.b false :: (.b false :: (.b true :: (.lit :: (.lit :: (.n 3 :: (.b true :: [])))))))))) =
  some (.bool true,
    [inP [.int .i64 n, .int .i64 17179869184],
     inP [.int .i64 m, .int .i64 17179869184],
     nP2 [.int .i64 (s16 n), .int .i64 (s16 m)],
     cP [.int .i64 (r4 k), I (makeI (s16 n) (s16 m))],
     nP1 [.int .i64 (s16 n)],
     cP [.int .i64 (r4 k), I (pointI (s16 n))],
     nP1 [.int .i64 (s16 m)],
     cP [.int .i64 (r4 k), I (pointI (s16 m))],
     fineP [ivs [cV (r4 k) (makeI (s16 n) (s16 m)), cV (r4 k) (pointI (s16 n)), cV (r4 k) (pointI (s16 m))]],
     (!(fineL [cV (r4 k) (makeI (s16 n) (s16 m)), cV (r4 k) (pointI (s16 n)), cV (r4 k) (pointI (s16 m))])) = false,
     iP2 [I (cV (r4 k) (makeI (s16 n) (s16 m))), I (cV (r4 k) (pointI (s16 n)))],
     (!(mtS (cV (r4 k) (makeI (s16 n) (s16 m))) (cV (r4 k) (pointI (s16 n))))) = false,
     iP2 [I (cV (r4 k) (makeI (s16 n) (s16 m))), I (cV (r4 k) (pointI (s16 m)))],
     (!(mtS (cV (r4 k) (makeI (s16 n) (s16 m))) (cV (r4 k) (pointI (s16 m))))) = false,
     nP1 [.int .i64 (md8 n m)],
     cP [.int .i64 (r4 k), I (pointI (md8 n m))],
     iP2 [I (cV (r4 k) (makeI (s16 n) (s16 m))), I (cV (r4 k) (pointI (md8 n m)))],
     (!(mtS (cV (r4 k) (makeI (s16 n) (s16 m))) (cV (r4 k) (pointI (md8 n m))))) = false,
     (decide (s16 n > s16 m)) = true,
     cP [.int .i64 (r4 k), I (makeI (s16 n) (s16 m))],
     iP1 [I (makeI (s16 n) (s16 m))],
     r4 k = 3,
     (((cV (r4 k) (makeI (s16 n) (s16 m))).lo == (cV 3 (makeI (s16 n) (s16 m))).lo) && (((cV (r4 k) (makeI (s16 n) (s16 m))).hi == (cV 3 (makeI (s16 n) (s16 m))).hi) && (((cV (r4 k) (makeI (s16 n) (s16 m))).bad) == ((cV 3 (makeI (s16 n) (s16 m))).bad)))) = true,
     wakesP []]) := by kernel_rfl
theorem sp3_0_leaf (n m k : Int) (hk : r4 k = 3) (q0 : (fineL [cV (r4 k) (makeI (s16 n) (s16 m)), cV (r4 k) (pointI (s16 n)), cV (r4 k) (pointI (s16 m))]) = true) (q1 : (mtS (cV (r4 k) (makeI (s16 n) (s16 m))) (cV (r4 k) (pointI (s16 n)))) = true) (q2 : (mtS (cV (r4 k) (makeI (s16 n) (s16 m))) (cV (r4 k) (pointI (s16 m)))) = true) (q3 : (mtS (cV (r4 k) (makeI (s16 n) (s16 m))) (cV (r4 k) (pointI (md8 n m)))) = true) (q4 : (decide (s16 n > s16 m)) = true) (q5 : (((cV (r4 k) (makeI (s16 n) (s16 m))).lo == (cV 3 (makeI (s16 n) (s16 m))).lo) && (((cV (r4 k) (makeI (s16 n) (s16 m))).hi == (cV 3 (makeI (s16 n) (s16 m))).hi) && (((cV (r4 k) (makeI (s16 n) (s16 m))).bad) == ((cV 3 (makeI (s16 n) (s16 m))).bad)))) = true) : Gives P 4 #[.int .i64 n, .int .i64 m, .int .i64 k] (.bool true) := by
  have R := sp3_0_run n m k
  refine gives_of_run mo R (ps_cons ⟨by decide, by decide⟩ (ps_cons ⟨by decide, by decide⟩ (ps_cons (pa k n m).i (ps_cons ⟨_, rfl⟩ (ps_cons (pa k n m).p (ps_cons ⟨_, rfl⟩ (ps_cons (pa k n m).q (ps_cons ⟨_, rfl⟩ (ps_cons (ivs_ok (by simp)) (ps_cons (neg_f q0) (ps_cons ⟨⟨_, rfl⟩, _, rfl⟩ (ps_cons (neg_f q1) (ps_cons ⟨⟨_, rfl⟩, _, rfl⟩ (ps_cons (neg_f q2) (ps_cons (pa k n m).h (ps_cons ⟨_, rfl⟩ (ps_cons ⟨⟨_, rfl⟩, _, rfl⟩ (ps_cons (neg_f q3) (ps_cons q4 (ps_cons ⟨_, rfl⟩ (ps_cons ⟨_, rfl⟩ (ps_cons hk (ps_cons q5 (ps_cons trivial ps_nil)))))))))))))))))))))))) ?_
  rfl
theorem sp3_1_run (n m k : Int) : runF P EL 1 4 [.int .i64 n, .int .i64 m, .int .i64 k] (.lit :: (.b false :: (.b false :: (.b false :: (.b false :: (.b false :: (.b true :: (.lit :: (.n 3 :: (.b true :: [])))))))))) =
  some (.bool true,
    [inP [.int .i64 n, .int .i64 17179869184],
     inP [.int .i64 m, .int .i64 17179869184],
     nP2 [.int .i64 (s16 n), .int .i64 (s16 m)],
     cP [.int .i64 (r4 k), I (makeI (s16 n) (s16 m))],
     nP1 [.int .i64 (s16 n)],
     cP [.int .i64 (r4 k), I (pointI (s16 n))],
     nP1 [.int .i64 (s16 m)],
     cP [.int .i64 (r4 k), I (pointI (s16 m))],
     fineP [ivs [cV (r4 k) (makeI (s16 n) (s16 m)), cV (r4 k) (pointI (s16 n)), cV (r4 k) (pointI (s16 m))]],
     (!(fineL [cV (r4 k) (makeI (s16 n) (s16 m)), cV (r4 k) (pointI (s16 n)), cV (r4 k) (pointI (s16 m))])) = false,
     iP2 [I (cV (r4 k) (makeI (s16 n) (s16 m))), I (cV (r4 k) (pointI (s16 n)))],
     (!(mtS (cV (r4 k) (makeI (s16 n) (s16 m))) (cV (r4 k) (pointI (s16 n))))) = false,
     iP2 [I (cV (r4 k) (makeI (s16 n) (s16 m))), I (cV (r4 k) (pointI (s16 m)))],
     (!(mtS (cV (r4 k) (makeI (s16 n) (s16 m))) (cV (r4 k) (pointI (s16 m))))) = false,
     nP1 [.int .i64 (md8 n m)],
     cP [.int .i64 (r4 k), I (pointI (md8 n m))],
     iP2 [I (cV (r4 k) (makeI (s16 n) (s16 m))), I (cV (r4 k) (pointI (md8 n m)))],
     (!(mtS (cV (r4 k) (makeI (s16 n) (s16 m))) (cV (r4 k) (pointI (md8 n m))))) = false,
     (decide (s16 n > s16 m)) = false,
     (decide (s16 m > 0)) = true,
     cP [.int .i64 (r4 k), I (makeI (s16 n) (s16 m))],
     iP1 [I (makeI (s16 n) (s16 m))],
     r4 k = 3,
     (((cV (r4 k) (makeI (s16 n) (s16 m))).lo == (cV 3 (makeI (s16 n) (s16 m))).lo) && (((cV (r4 k) (makeI (s16 n) (s16 m))).hi == (cV 3 (makeI (s16 n) (s16 m))).hi) && (((cV (r4 k) (makeI (s16 n) (s16 m))).bad) == ((cV 3 (makeI (s16 n) (s16 m))).bad)))) = true,
     wakesP []]) := by kernel_rfl
theorem sp3_1_leaf (n m k : Int) (hk : r4 k = 3) (q0 : (fineL [cV (r4 k) (makeI (s16 n) (s16 m)), cV (r4 k) (pointI (s16 n)), cV (r4 k) (pointI (s16 m))]) = true) (q1 : (mtS (cV (r4 k) (makeI (s16 n) (s16 m))) (cV (r4 k) (pointI (s16 n)))) = true) (q2 : (mtS (cV (r4 k) (makeI (s16 n) (s16 m))) (cV (r4 k) (pointI (s16 m)))) = true) (q3 : (mtS (cV (r4 k) (makeI (s16 n) (s16 m))) (cV (r4 k) (pointI (md8 n m)))) = true) (q4 : (decide (s16 n > s16 m)) = false) (q5 : (decide (s16 m > 0)) = true) (q6 : (((cV (r4 k) (makeI (s16 n) (s16 m))).lo == (cV 3 (makeI (s16 n) (s16 m))).lo) && (((cV (r4 k) (makeI (s16 n) (s16 m))).hi == (cV 3 (makeI (s16 n) (s16 m))).hi) && (((cV (r4 k) (makeI (s16 n) (s16 m))).bad) == ((cV 3 (makeI (s16 n) (s16 m))).bad)))) = true) : Gives P 4 #[.int .i64 n, .int .i64 m, .int .i64 k] (.bool true) := by
  have R := sp3_1_run n m k
  refine gives_of_run mo R (ps_cons ⟨by decide, by decide⟩ (ps_cons ⟨by decide, by decide⟩ (ps_cons (pa k n m).i (ps_cons ⟨_, rfl⟩ (ps_cons (pa k n m).p (ps_cons ⟨_, rfl⟩ (ps_cons (pa k n m).q (ps_cons ⟨_, rfl⟩ (ps_cons (ivs_ok (by simp)) (ps_cons (neg_f q0) (ps_cons ⟨⟨_, rfl⟩, _, rfl⟩ (ps_cons (neg_f q1) (ps_cons ⟨⟨_, rfl⟩, _, rfl⟩ (ps_cons (neg_f q2) (ps_cons (pa k n m).h (ps_cons ⟨_, rfl⟩ (ps_cons ⟨⟨_, rfl⟩, _, rfl⟩ (ps_cons (neg_f q3) (ps_cons q4 (ps_cons q5 (ps_cons ⟨_, rfl⟩ (ps_cons ⟨_, rfl⟩ (ps_cons hk (ps_cons q6 (ps_cons trivial ps_nil))))))))))))))))))))))))) ?_
  rfl
theorem sp3_2_run (n m k : Int) : runF P EL 1 4 [.int .i64 n, .int .i64 m, .int .i64 k] (.lit :: (.b false :: (.b false :: (.b false :: (.b false :: (.b false :: (.b false :: (.b true :: (.n 3 :: (.b true :: [])))))))))) =
  some (.bool true,
    [inP [.int .i64 n, .int .i64 17179869184],
     inP [.int .i64 m, .int .i64 17179869184],
     nP2 [.int .i64 (s16 n), .int .i64 (s16 m)],
     cP [.int .i64 (r4 k), I (makeI (s16 n) (s16 m))],
     nP1 [.int .i64 (s16 n)],
     cP [.int .i64 (r4 k), I (pointI (s16 n))],
     nP1 [.int .i64 (s16 m)],
     cP [.int .i64 (r4 k), I (pointI (s16 m))],
     fineP [ivs [cV (r4 k) (makeI (s16 n) (s16 m)), cV (r4 k) (pointI (s16 n)), cV (r4 k) (pointI (s16 m))]],
     (!(fineL [cV (r4 k) (makeI (s16 n) (s16 m)), cV (r4 k) (pointI (s16 n)), cV (r4 k) (pointI (s16 m))])) = false,
     iP2 [I (cV (r4 k) (makeI (s16 n) (s16 m))), I (cV (r4 k) (pointI (s16 n)))],
     (!(mtS (cV (r4 k) (makeI (s16 n) (s16 m))) (cV (r4 k) (pointI (s16 n))))) = false,
     iP2 [I (cV (r4 k) (makeI (s16 n) (s16 m))), I (cV (r4 k) (pointI (s16 m)))],
     (!(mtS (cV (r4 k) (makeI (s16 n) (s16 m))) (cV (r4 k) (pointI (s16 m))))) = false,
     nP1 [.int .i64 (md8 n m)],
     cP [.int .i64 (r4 k), I (pointI (md8 n m))],
     iP2 [I (cV (r4 k) (makeI (s16 n) (s16 m))), I (cV (r4 k) (pointI (md8 n m)))],
     (!(mtS (cV (r4 k) (makeI (s16 n) (s16 m))) (cV (r4 k) (pointI (md8 n m))))) = false,
     (decide (s16 n > s16 m)) = false,
     (decide (s16 m > 0)) = false,
     (decide ((cV (r4 k) (pointI (s16 n))).hi ≥ (cV (r4 k) (pointI (s16 m))).lo)) = true,
     cP [.int .i64 (r4 k), I (makeI (s16 n) (s16 m))],
     iP1 [I (makeI (s16 n) (s16 m))],
     r4 k = 3,
     (((cV (r4 k) (makeI (s16 n) (s16 m))).lo == (cV 3 (makeI (s16 n) (s16 m))).lo) && (((cV (r4 k) (makeI (s16 n) (s16 m))).hi == (cV 3 (makeI (s16 n) (s16 m))).hi) && (((cV (r4 k) (makeI (s16 n) (s16 m))).bad) == ((cV 3 (makeI (s16 n) (s16 m))).bad)))) = true,
     wakesP []]) := by kernel_rfl
theorem sp3_2_leaf (n m k : Int) (hk : r4 k = 3) (q0 : (fineL [cV (r4 k) (makeI (s16 n) (s16 m)), cV (r4 k) (pointI (s16 n)), cV (r4 k) (pointI (s16 m))]) = true) (q1 : (mtS (cV (r4 k) (makeI (s16 n) (s16 m))) (cV (r4 k) (pointI (s16 n)))) = true) (q2 : (mtS (cV (r4 k) (makeI (s16 n) (s16 m))) (cV (r4 k) (pointI (s16 m)))) = true) (q3 : (mtS (cV (r4 k) (makeI (s16 n) (s16 m))) (cV (r4 k) (pointI (md8 n m)))) = true) (q4 : (decide (s16 n > s16 m)) = false) (q5 : (decide (s16 m > 0)) = false) (q6 : (decide ((cV (r4 k) (pointI (s16 n))).hi ≥ (cV (r4 k) (pointI (s16 m))).lo)) = true) (q7 : (((cV (r4 k) (makeI (s16 n) (s16 m))).lo == (cV 3 (makeI (s16 n) (s16 m))).lo) && (((cV (r4 k) (makeI (s16 n) (s16 m))).hi == (cV 3 (makeI (s16 n) (s16 m))).hi) && (((cV (r4 k) (makeI (s16 n) (s16 m))).bad) == ((cV 3 (makeI (s16 n) (s16 m))).bad)))) = true) : Gives P 4 #[.int .i64 n, .int .i64 m, .int .i64 k] (.bool true) := by
  have R := sp3_2_run n m k
  refine gives_of_run mo R (ps_cons ⟨by decide, by decide⟩ (ps_cons ⟨by decide, by decide⟩ (ps_cons (pa k n m).i (ps_cons ⟨_, rfl⟩ (ps_cons (pa k n m).p (ps_cons ⟨_, rfl⟩ (ps_cons (pa k n m).q (ps_cons ⟨_, rfl⟩ (ps_cons (ivs_ok (by simp)) (ps_cons (neg_f q0) (ps_cons ⟨⟨_, rfl⟩, _, rfl⟩ (ps_cons (neg_f q1) (ps_cons ⟨⟨_, rfl⟩, _, rfl⟩ (ps_cons (neg_f q2) (ps_cons (pa k n m).h (ps_cons ⟨_, rfl⟩ (ps_cons ⟨⟨_, rfl⟩, _, rfl⟩ (ps_cons (neg_f q3) (ps_cons q4 (ps_cons q5 (ps_cons q6 (ps_cons ⟨_, rfl⟩ (ps_cons ⟨_, rfl⟩ (ps_cons hk (ps_cons q7 (ps_cons trivial ps_nil)))))))))))))))))))))))))) ?_
  rfl
theorem sp3 (n m k : Int) (hk : r4 k = 3) : Gives P 4 #[.int .i64 n, .int .i64 m, .int .i64 k] (.bool true) := by
  have q0 : (fineL [cV (r4 k) (makeI (s16 n) (s16 m)), cV (r4 k) (pointI (s16 n)), cV (r4 k) (pointI (s16 m))]) = true := (pa k n m).f
  have q1 : (mtS (cV (r4 k) (makeI (s16 n) (s16 m))) (cV (r4 k) (pointI (s16 n)))) = true := (pa k n m).x
  have q2 : (mtS (cV (r4 k) (makeI (s16 n) (s16 m))) (cV (r4 k) (pointI (s16 m)))) = true := (pa k n m).y
  have q3 : (mtS (cV (r4 k) (makeI (s16 n) (s16 m))) (cV (r4 k) (pointI (md8 n m)))) = true := (pa k n m).z
  cases q4 : (decide (s16 n > s16 m)) with
  | true =>
    have q5 : (((cV (r4 k) (makeI (s16 n) (s16 m))).lo == (cV 3 (makeI (s16 n) (s16 m))).lo) && (((cV (r4 k) (makeI (s16 n) (s16 m))).hi == (cV 3 (makeI (s16 n) (s16 m))).hi) && (((cV (r4 k) (makeI (s16 n) (s16 m))).bad) == ((cV 3 (makeI (s16 n) (s16 m))).bad)))) = true := (same9 (by rw [hk]))
    exact sp3_0_leaf n m k hk q0 q1 q2 q3 q4 q5
  | false =>
    cases q5 : (decide (s16 m > 0)) with
    | true =>
      have q6 : (((cV (r4 k) (makeI (s16 n) (s16 m))).lo == (cV 3 (makeI (s16 n) (s16 m))).lo) && (((cV (r4 k) (makeI (s16 n) (s16 m))).hi == (cV 3 (makeI (s16 n) (s16 m))).hi) && (((cV (r4 k) (makeI (s16 n) (s16 m))).bad) == ((cV 3 (makeI (s16 n) (s16 m))).bad)))) = true := (same9 (by rw [hk]))
      exact sp3_1_leaf n m k hk q0 q1 q2 q3 q4 q5 q6
    | false =>
      have q6 : (decide ((cV (r4 k) (pointI (s16 n))).hi ≥ (cV (r4 k) (pointI (s16 m))).lo)) = true := (pa k n m).w q4 q5
      have q7 : (((cV (r4 k) (makeI (s16 n) (s16 m))).lo == (cV 3 (makeI (s16 n) (s16 m))).lo) && (((cV (r4 k) (makeI (s16 n) (s16 m))).hi == (cV 3 (makeI (s16 n) (s16 m))).hi) && (((cV (r4 k) (makeI (s16 n) (s16 m))).bad) == ((cV 3 (makeI (s16 n) (s16 m))).bad)))) = true := (same9 (by rw [hk]))
      exact sp3_2_leaf n m k hk q0 q1 q2 q3 q4 q5 q6 q7
theorem StumpffParts_all (n m k : Int) : Gives P 4 #[.int .i64 n, .int .i64 m, .int .i64 k] (.bool true) := by
  obtain ⟨j, hj, ek⟩ := r4_in k
  have h : r4 k = 0 ∨ r4 k = 1 ∨ r4 k = 2 ∨ r4 k = 3 := by omega
  rcases h with h | h | h | h
  · exact sp0 n m k h
  · exact sp1 n m k h
  · exact sp2 n m k h
  · exact sp3 n m k h
end Go.St
