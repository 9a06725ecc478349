/-
  The law WaveParts: it comes to true. Printed by wvG.py.
-/
import Derived.Test.YtmlmfjlecgcndaaDoorWvF
set_option maxRecDepth 100000
namespace Go.Wv
open Go Go.RowKit Go.Sx Go.Nm Go.Wd Go.Qt Go.Iv Go.Proofs

theorem in_math {n w : Int} (hw : 1 ≤ w) (hw2 : w ≤ 2305843009213693953) : IntKind.i64.wrap (n.tmod w + w) = n.tmod w + w ∧ (n.tmod w + w).tmod w = n % w := by
  have h1 := Int.tmod_lt_of_pos n (show 0 < w by omega)
  have h2 : -w < n.tmod w := by
    have := Int.lt_tmod_of_pos n (show 0 < w by omega)
    omega
  refine ⟨wr (by omega) (by omega), ?_⟩
  rw [Int.tmod_eq_emod_of_nonneg (by omega), Int.add_emod_right]
  have e := Int.mul_tdiv_add_tmod n w
  conv => rhs; rw [← e]
  rw [Int.add_comm, Int.add_mul_emod_self_left]
def inW (a : Iv) (n : Int) : Int := IntKind.i64.wrap (a.lo + ((IntKind.i64.wrap (n.tmod (IntKind.i64.wrap (IntKind.i64.wrap (a.hi - a.lo) + 1)) + (IntKind.i64.wrap (IntKind.i64.wrap (a.hi - a.lo) + 1)))).tmod (IntKind.i64.wrap (IntKind.i64.wrap (a.hi - a.lo) + 1))))
theorem inW_in {a : Iv} (n : Int) (h : fine a = true) : a.lo ≤ inW a n ∧ inW a n ≤ a.hi ∧ IntKind.i64.wrap (IntKind.i64.wrap (a.hi - a.lo) + 1) ≠ 0 := by
  obtain ⟨_, h1, h2, h3⟩ := fine_iff.1 h
  have w1 : IntKind.i64.wrap (a.hi - a.lo) = a.hi - a.lo := wr (by omega) (by omega)
  have w2 : IntKind.i64.wrap (a.hi - a.lo + 1) = a.hi - a.lo + 1 := wr (by omega) (by omega)
  have w3 := in_math (n := n) (w := a.hi - a.lo + 1) (by omega) (by omega)
  have r1 := Int.emod_nonneg n (show a.hi - a.lo + 1 ≠ 0 by omega)
  have r2 := Int.emod_lt_of_pos n (show 0 < a.hi - a.lo + 1 by omega)
  unfold inW
  rw [w1, w2, w3.1, w3.2, wr (by omega) (by omega)]
  omega
def dW (a : Iv) (n m : Int) : Int := mx (IntKind.i64.wrap (inW a n - inW a m)) (IntKind.i64.wrap (inW a m - inW a n))
structure Prt (a : Iv) (n m : Int) : Prop where
  z : IntKind.i64.wrap (IntKind.i64.wrap (a.hi - a.lo) + 1) ≠ 0
  i : I64 (inW a n)
  j : I64 (inW a m)
  d : nP2 [.int .i64 (IntKind.i64.wrap (0 - dW a n m)), .int .i64 (dW a n m)]
  f : fineL [waveI false a, waveI true a, waveI false (pointI (inW a n)), waveI true (pointI (inW a n)), waveI false (pointI (inW a m)), waveI true (pointI (inW a m))] = true
  s : mtB (waveI false a) (waveI false (pointI (inW a n))) = true
  c : mtB (waveI true a) (waveI true (pointI (inW a n))) = true
  p : mtB (subI (waveI false (pointI (inW a n))) (waveI false (pointI (inW a m)))) (makeI (IntKind.i64.wrap (0 - dW a n m)) (dW a n m)) = true
  q : mtB (subI (waveI true (pointI (inW a n))) (waveI true (pointI (inW a m)))) (makeI (IntKind.i64.wrap (0 - dW a n m)) (dW a n m)) = true
theorem mt' {a b : Iv} (h : (meetI a b).bad = false) : mtB a b = true := by unfold mtB; rw [h]; rfl
theorem fl1' {a : Iv} {l : List Iv} (h : fine a = true) (k : fineL l = true) : fineL (a :: l) = true := by show (fine a && fineL l) = true; rw [h, k]; rfl
theorem prt {a : Iv} (n m : Int) (h : holdsI (around 4294967296) a = true) : Prt a n m := by
  obtain ⟨fa, b1, b2⟩ := holds_far h
  obtain ⟨n1, n2, z⟩ := inW_in n fa
  obtain ⟨m1, m2, _⟩ := inW_in m fa
  have ed : dW a n m = mx (inW a n - inW a m) (inW a m - inW a n) := by unfold dW; rw [wr (by omega) (by omega), wr (by omega) (by omega)]
  have dm : mx (inW a n - inW a m) (inW a m - inW a n) ≤ 8589934592 := mx_le.2 ⟨by omega, by omega⟩
  have d0 : inW a n - inW a m ≤ mx (inW a n - inW a m) (inW a m - inW a n) ∧ inW a m - inW a n ≤ mx (inW a n - inW a m) (inW a m - inW a n) := mx_le.1 (Int.le_refl _)
  have ew : IntKind.i64.wrap (0 - dW a n m) = -dW a n m := by rw [Int.zero_sub, wr (by omega) (by omega)]
  have fp := fun (c : Bool) => (wave_facts c (point_far (n := inW a n) (by omega) (by omega))).f
  have fq := fun (c : Bool) => (wave_facts c (point_far (n := inW a m) (by omega) (by omega))).f
  refine ⟨z, by unfold I64; omega, by unfold I64; omega, ?_, ?_, mt' (part_meets false h n1 n2), mt' (part_meets true h n1 n2), ?_, ?_⟩
  · rw [ew]; unfold nP2 I64; omega
  · exact fl1' (wave_facts false h).f (fl1' (wave_facts true h).f (fl1' (fp false) (fl1' (fp true) (fl1' (fq false) (fl1' (fq true) rfl)))))
  · rw [ew, ed]; exact mt' (points_near false (by omega) (by omega) (by omega) (by omega))
  · rw [ew, ed]; exact mt' (points_near true (by omega) (by omega) (by omega) (by omega))
theorem wp0_run (a : Iv) (n m : Int) : runF P EL 1 3 [I a, .int .i64 n, .int .i64 m] (.b false :: (.lit :: (.b false :: (.b false :: (.b false :: (.b true :: (.b true :: []))))))) =
  some (.bool true,
    [nP2 [.int .i64 (-4294967296), .int .i64 4294967296],
     iP2 [I (makeI (-4294967296) 4294967296), I a],
     (!(holdsI (makeI (-4294967296) 4294967296) a)) = false,
     IntKind.i64.wrap (IntKind.i64.wrap (a.hi - a.lo) + 1) ≠ 0,
     IntKind.i64.wrap (IntKind.i64.wrap (a.hi - a.lo) + 1) ≠ 0,
     IntKind.i64.wrap (IntKind.i64.wrap (a.hi - a.lo) + 1) ≠ 0,
     IntKind.i64.wrap (IntKind.i64.wrap (a.hi - a.lo) + 1) ≠ 0,
     iP1 [I a],
     nP1 [.int .i64 (inW a n)],
     iP1 [I (pointI (inW a n))],
     nP1 [.int .i64 (inW a m)],
     iP1 [I (pointI (inW a m))],
     fineP [ivs [waveI false a, waveI true a, waveI false (pointI (inW a n)), waveI true (pointI (inW a n)), waveI false (pointI (inW a m)), waveI true (pointI (inW a m))]],
     (!(fineL [waveI false a, waveI true a, waveI false (pointI (inW a n)), waveI true (pointI (inW a n)), waveI false (pointI (inW a m)), waveI true (pointI (inW a m))])) = false,
     iP2 [I (waveI false a), I (waveI false (pointI (inW a n)))],
     (!(mtB (waveI false a) (waveI false (pointI (inW a n))))) = false,
     iP2 [I (waveI true a), I (waveI true (pointI (inW a n)))],
     (!(mtB (waveI true a) (waveI true (pointI (inW a n))))) = false,
     nP2 [.int .i64 (IntKind.i64.wrap (0 - dW a n m)), .int .i64 (dW a n m)],
     iP2 [I (waveI false (pointI (inW a n))), I (waveI false (pointI (inW a m)))],
     iP2 [I (subI (waveI false (pointI (inW a n))) (waveI false (pointI (inW a m)))), I (makeI (IntKind.i64.wrap (0 - dW a n m)) (dW a n m))],
     (mtB (subI (waveI false (pointI (inW a n))) (waveI false (pointI (inW a m)))) (makeI (IntKind.i64.wrap (0 - dW a n m)) (dW a n m))) = true,
     iP2 [I (waveI true (pointI (inW a n))), I (waveI true (pointI (inW a m)))],
     iP2 [I (subI (waveI true (pointI (inW a n))) (waveI true (pointI (inW a m)))), I (makeI (IntKind.i64.wrap (0 - dW a n m)) (dW a n m))],
     (mtB (subI (waveI true (pointI (inW a n))) (waveI true (pointI (inW a m)))) (makeI (IntKind.i64.wrap (0 - dW a n m)) (dW a n m))) = true,
     wakesP []]) := by kernel_rfl
theorem wp0_leaf (a : Iv) (n m : Int)  (q0 : (holdsI (makeI (-4294967296) 4294967296) a) = true) (q1 : (fineL [waveI false a, waveI true a, waveI false (pointI (inW a n)), waveI true (pointI (inW a n)), waveI false (pointI (inW a m)), waveI true (pointI (inW a m))]) = true) (q2 : (mtB (waveI false a) (waveI false (pointI (inW a n)))) = true) (q3 : (mtB (waveI true a) (waveI true (pointI (inW a n)))) = true) (q4 : (mtB (subI (waveI false (pointI (inW a n))) (waveI false (pointI (inW a m)))) (makeI (IntKind.i64.wrap (0 - dW a n m)) (dW a n m))) = true) (q5 : (mtB (subI (waveI true (pointI (inW a n))) (waveI true (pointI (inW a m)))) (makeI (IntKind.i64.wrap (0 - dW a n m)) (dW a n m))) = true) : Gives P 3 #[I a, .int .i64 n, .int .i64 m] (.bool true) := by
  have R := wp0_run a n m
  refine gives_of_run mo R (ps_cons (by unfold nP2 I64; omega) (ps_cons ⟨⟨_, rfl⟩, _, rfl⟩ (ps_cons (neg_f q0) (ps_cons (prt n m q0).z (ps_cons (prt n m q0).z (ps_cons (prt n m q0).z (ps_cons (prt n m q0).z (ps_cons ⟨_, rfl⟩ (ps_cons (prt n m q0).i (ps_cons ⟨_, rfl⟩ (ps_cons (prt n m q0).j (ps_cons ⟨_, rfl⟩ (ps_cons (ivs_ok (by simp)) (ps_cons (neg_f q1) (ps_cons ⟨⟨_, rfl⟩, _, rfl⟩ (ps_cons (neg_f q2) (ps_cons ⟨⟨_, rfl⟩, _, rfl⟩ (ps_cons (neg_f q3) (ps_cons (prt n m q0).d (ps_cons ⟨⟨_, rfl⟩, _, rfl⟩ (ps_cons ⟨⟨_, rfl⟩, _, rfl⟩ (ps_cons q4 (ps_cons ⟨⟨_, rfl⟩, _, rfl⟩ (ps_cons ⟨⟨_, rfl⟩, _, rfl⟩ (ps_cons q5 (ps_cons trivial ps_nil)))))))))))))))))))))))))) ?_
  rfl
theorem wp1_run (a : Iv) (n m : Int) : runF P EL 1 3 [I a, .int .i64 n, .int .i64 m] (.b true :: []) =
  some (.bool true,
    [nP2 [.int .i64 (-4294967296), .int .i64 4294967296],
     iP2 [I (makeI (-4294967296) 4294967296), I a],
     (!(holdsI (makeI (-4294967296) 4294967296) a)) = true,
     wakesP []]) := by kernel_rfl
theorem wp1_leaf (a : Iv) (n m : Int)  (q0 : (holdsI (makeI (-4294967296) 4294967296) a) = false) : Gives P 3 #[I a, .int .i64 n, .int .i64 m] (.bool true) := by
  have R := wp1_run a n m
  refine gives_of_run mo R (ps_cons (by unfold nP2 I64; omega) (ps_cons ⟨⟨_, rfl⟩, _, rfl⟩ (ps_cons (neg_t q0) (ps_cons trivial ps_nil)))) ?_
  rfl
theorem WaveParts_all (a : Iv) (n m : Int) : Gives P 3 #[I a, .int .i64 n, .int .i64 m] (.bool true) := by
  cases q0 : (holdsI (makeI (-4294967296) 4294967296) a) with
  | true =>
    have q1 : (fineL [waveI false a, waveI true a, waveI false (pointI (inW a n)), waveI true (pointI (inW a n)), waveI false (pointI (inW a m)), waveI true (pointI (inW a m))]) = true := (prt n m q0).f
    have q2 : (mtB (waveI false a) (waveI false (pointI (inW a n)))) = true := (prt n m q0).s
    have q3 : (mtB (waveI true a) (waveI true (pointI (inW a n)))) = true := (prt n m q0).c
    have q4 : (mtB (subI (waveI false (pointI (inW a n))) (waveI false (pointI (inW a m)))) (makeI (IntKind.i64.wrap (0 - dW a n m)) (dW a n m))) = true := (prt n m q0).p
    have q5 : (mtB (subI (waveI true (pointI (inW a n))) (waveI true (pointI (inW a m)))) (makeI (IntKind.i64.wrap (0 - dW a n m)) (dW a n m))) = true := (prt n m q0).q
    exact wp0_leaf a n m  q0 q1 q2 q3 q4 q5
  | false =>
    exact wp1_leaf a n m  q0
end Go.Wv
