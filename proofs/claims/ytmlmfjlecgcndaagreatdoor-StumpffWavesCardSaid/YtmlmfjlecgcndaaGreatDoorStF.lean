/-
  The law StumpffOnes: it comes to true. Printed by stF.py.
-/
import Derived.Test.YtmlmfjlecgcndaaGreatDoorStE
set_option maxRecDepth 100000
namespace Go.St
open Go Go.RowKit Go.Sx Go.Nm Go.Wd Go.Qt Go.Iv Go.An Go.Wv Go.Proofs

structure On (a : Iv) : Prop where
  f : fineL [cV 0 a, cV 1 a, cV 2 a, cV 3 a] = true
  x : holdsI (addI (cV 0 a) (mulI a (cV 2 a))) (ofI 1) = true
  y : holdsI (addI (cV 1 a) (mulI a (cV 3 a))) (ofI 1) = true
theorem on {a : Iv} (h : holdsI (around 17179869184) a = true) : On a := by
  obtain ⟨fa, b1, b2⟩ := holds_16 h
  have ra := fine_iff.1 fa
  have f := fun (k : Nat) (hk : k ≤ 3) => (cI_facts hk h).1.f
  have e0 := cV_eq 0 (by decide) a
  have e1 := cV_eq 1 (by decide) a
  have e2 := cV_eq 2 (by decide) a
  have e3 := cV_eq 3 (by decide) a
  refine ⟨?_, ?_, ?_⟩
  · show fineL [cV ((0 : Nat) : Int) a, cV ((1 : Nat) : Int) a, cV ((2 : Nat) : Int) a, cV ((3 : Nat) : Int) a] = true
    rw [e0, e1, e2, e3]
    exact fl1 (f 0 (by decide)) (fl1 (f 1 (by decide)) (fl1 (f 2 (by decide)) (fl1 (f 3 (by decide)) rfl)))
  · show holdsI (addI (cV ((0 : Nat) : Int) a) (mulI a (cV ((2 : Nat) : Int) a))) (ofI 1) = true
    rw [e0, e2]
    exact one_c h (Int.le_refl _) (by omega : a.lo ≤ a.hi) 0 (by decide)
  · show holdsI (addI (cV ((1 : Nat) : Int) a) (mulI a (cV ((3 : Nat) : Int) a))) (ofI 1) = true
    rw [e1, e3]
    exact one_c h (Int.le_refl _) (by omega : a.lo ≤ a.hi) 1 (by decide)
theorem on_p (n : Int) : On (pointI (inS 17179869184 n)) := by
  have h := inS_in n (m := 17179869184) (by decide)
  exact on (pt16 (by omega) (by omega))
theorem in_i (m n : Int) (h0 : 0 ≤ m) (h2 : m ≤ 1152921504606846976) : I64 (inS m n) := by
  have h := inS_in n h0
  unfold I64; omega
theorem on_w {p r : Int} (h1 : ¬ r < 0) (h2 : ¬ r > 1073741824) (h3 : ¬ p < -16106127360) (h4 : ¬ p > 16106127360) : On (makeI (IntKind.i64.wrap (p - r)) (IntKind.i64.wrap (p + r))) := by
  rw [wr (by omega) (by omega), wr (by omega) (by omega)]
  have e1 : mn (p - r) (p + r) = p - r := by unfold mn; split <;> omega
  have e2 : mx (p - r) (p + r) = p + r := by unfold mx; split <;> omega
  have f : fine ⟨p - r, p + r, false⟩ = true := fine_iff.2 ⟨rfl, by simp only []; omega, by simp only []; omega, by simp only []; omega⟩
  have e : makeI (p - r) (p + r) = ⟨p - r, p + r, false⟩ := by unfold makeI; rw [e1, e2, told_ok f]
  rw [e]
  exact on (far_16 f (by simp only []; omega) (by simp only []; omega))
theorem on_i {p r : Int} (h1 : ¬ r < 0) (h2 : ¬ r > 1073741824) (h3 : ¬ p < -16106127360) (h4 : ¬ p > 16106127360) : nP2 [.int .i64 (IntKind.i64.wrap (p - r)), .int .i64 (IntKind.i64.wrap (p + r))] := by
  rw [wr (by omega) (by omega), wr (by omega) (by omega)]
  unfold nP2 I64; omega
theorem so0_run (n r : Int) : runF P EL 1 5 [.int .i64 n, .int .i64 r] (.b true :: []) =
  some (.bool true,
    [inP [.int .i64 n, .int .i64 17179869184],
     (decide (r < 0)) = true,
     wakesP []]) := by kernel_rfl
theorem so0_leaf (n r : Int)  (q0 : (decide (r < 0)) = true) : Gives P 5 #[.int .i64 n, .int .i64 r] (.bool true) := by
  have R := so0_run n r
  refine gives_of_run mo R (ps_cons ⟨by decide, by decide⟩ (ps_cons q0 (ps_cons trivial ps_nil))) ?_
  rfl
theorem so1_run (n r : Int) : runF P EL 1 5 [.int .i64 n, .int .i64 r] (.b false :: (.b true :: [])) =
  some (.bool true,
    [inP [.int .i64 n, .int .i64 17179869184],
     (decide (r < 0)) = false,
     (decide (r > 1073741824)) = true,
     wakesP []]) := by kernel_rfl
theorem so1_leaf (n r : Int)  (q0 : (decide (r < 0)) = false) (q1 : (decide (r > 1073741824)) = true) : Gives P 5 #[.int .i64 n, .int .i64 r] (.bool true) := by
  have R := so1_run n r
  refine gives_of_run mo R (ps_cons ⟨by decide, by decide⟩ (ps_cons q0 (ps_cons q1 (ps_cons trivial ps_nil)))) ?_
  rfl
theorem so2_run (n r : Int) : runF P EL 1 5 [.int .i64 n, .int .i64 r] (.b false :: (.b false :: (.b true :: []))) =
  some (.bool true,
    [inP [.int .i64 n, .int .i64 17179869184],
     (decide (r < 0)) = false,
     (decide (r > 1073741824)) = false,
     (decide (inS 17179869184 n < -16106127360)) = true,
     wakesP []]) := by kernel_rfl
theorem so2_leaf (n r : Int)  (q0 : (decide (r < 0)) = false) (q1 : (decide (r > 1073741824)) = false) (q2 : (decide (inS 17179869184 n < -16106127360)) = true) : Gives P 5 #[.int .i64 n, .int .i64 r] (.bool true) := by
  have R := so2_run n r
  refine gives_of_run mo R (ps_cons ⟨by decide, by decide⟩ (ps_cons q0 (ps_cons q1 (ps_cons q2 (ps_cons trivial ps_nil))))) ?_
  rfl
theorem so3_run (n r : Int) : runF P EL 1 5 [.int .i64 n, .int .i64 r] (.b false :: (.b false :: (.b false :: (.b true :: [])))) =
  some (.bool true,
    [inP [.int .i64 n, .int .i64 17179869184],
     (decide (r < 0)) = false,
     (decide (r > 1073741824)) = false,
     (decide (inS 17179869184 n < -16106127360)) = false,
     (decide (inS 17179869184 n > 16106127360)) = true,
     wakesP []]) := by kernel_rfl
theorem so3_leaf (n r : Int)  (q0 : (decide (r < 0)) = false) (q1 : (decide (r > 1073741824)) = false) (q2 : (decide (inS 17179869184 n < -16106127360)) = false) (q3 : (decide (inS 17179869184 n > 16106127360)) = true) : Gives P 5 #[.int .i64 n, .int .i64 r] (.bool true) := by
  have R := so3_run n r
  refine gives_of_run mo R (ps_cons ⟨by decide, by decide⟩ (ps_cons q0 (ps_cons q1 (ps_cons q2 (ps_cons q3 (ps_cons trivial ps_nil)))))) ?_
  rfl
theorem so4_run (n r : Int) : runF P EL 1 5 [.int .i64 n, .int .i64 r] (.b false :: (.b false :: (.b false :: (.b false :: (lits 5 (.b false :: (.b false :: (.b false :: (.lit :: (.lit :: (.lit :: (.b false :: (.b false :: (.b false :: [])))))))))))))) =
  some (.bool true,
    [inP [.int .i64 n, .int .i64 17179869184],
     (decide (r < 0)) = false,
     (decide (r > 1073741824)) = false,
     (decide (inS 17179869184 n < -16106127360)) = false,
     (decide (inS 17179869184 n > 16106127360)) = false,
     nP1 [.int .i64 1],
     nP1 [.int .i64 (inS 17179869184 n)],
     nP2 [.int .i64 (IntKind.i64.wrap (inS 17179869184 n - r)), .int .i64 (IntKind.i64.wrap (inS 17179869184 n + r))],
     iP1 [I (pointI (inS 17179869184 n))],
     fineP [ivs [cV 0 (pointI (inS 17179869184 n)), cV 1 (pointI (inS 17179869184 n)), cV 2 (pointI (inS 17179869184 n)), cV 3 (pointI (inS 17179869184 n))]],
     (!(fineL [cV 0 (pointI (inS 17179869184 n)), cV 1 (pointI (inS 17179869184 n)), cV 2 (pointI (inS 17179869184 n)), cV 3 (pointI (inS 17179869184 n))])) = false,
     iP2 [I (pointI (inS 17179869184 n)), I (cV 2 (pointI (inS 17179869184 n)))],
     iP2 [I (cV 0 (pointI (inS 17179869184 n))), I (mulI (pointI (inS 17179869184 n)) (cV 2 (pointI (inS 17179869184 n))))],
     iP2 [I (pointI (inS 17179869184 n)), I (cV 3 (pointI (inS 17179869184 n)))],
     iP2 [I (cV 1 (pointI (inS 17179869184 n))), I (mulI (pointI (inS 17179869184 n)) (cV 3 (pointI (inS 17179869184 n))))],
     iP2 [I (addI (cV 0 (pointI (inS 17179869184 n))) (mulI (pointI (inS 17179869184 n)) (cV 2 (pointI (inS 17179869184 n))))), I (ofI 1)],
     (!(holdsI (addI (cV 0 (pointI (inS 17179869184 n))) (mulI (pointI (inS 17179869184 n)) (cV 2 (pointI (inS 17179869184 n))))) (ofI 1))) = false,
     iP2 [I (addI (cV 1 (pointI (inS 17179869184 n))) (mulI (pointI (inS 17179869184 n)) (cV 3 (pointI (inS 17179869184 n))))), I (ofI 1)],
     (!(holdsI (addI (cV 1 (pointI (inS 17179869184 n))) (mulI (pointI (inS 17179869184 n)) (cV 3 (pointI (inS 17179869184 n))))) (ofI 1))) = false,
     iP1 [I (makeI (IntKind.i64.wrap (inS 17179869184 n - r)) (IntKind.i64.wrap (inS 17179869184 n + r)))],
     fineP [ivs [cV 0 (makeI (IntKind.i64.wrap (inS 17179869184 n - r)) (IntKind.i64.wrap (inS 17179869184 n + r))), cV 1 (makeI (IntKind.i64.wrap (inS 17179869184 n - r)) (IntKind.i64.wrap (inS 17179869184 n + r))), cV 2 (makeI (IntKind.i64.wrap (inS 17179869184 n - r)) (IntKind.i64.wrap (inS 17179869184 n + r))), cV 3 (makeI (IntKind.i64.wrap (inS 17179869184 n - r)) (IntKind.i64.wrap (inS 17179869184 n + r)))]],
     (!(fineL [cV 0 (makeI (IntKind.i64.wrap (inS 17179869184 n - r)) (IntKind.i64.wrap (inS 17179869184 n + r))), cV 1 (makeI (IntKind.i64.wrap (inS 17179869184 n - r)) (IntKind.i64.wrap (inS 17179869184 n + r))), cV 2 (makeI (IntKind.i64.wrap (inS 17179869184 n - r)) (IntKind.i64.wrap (inS 17179869184 n + r))), cV 3 (makeI (IntKind.i64.wrap (inS 17179869184 n - r)) (IntKind.i64.wrap (inS 17179869184 n + r)))])) = false,
     iP2 [I (makeI (IntKind.i64.wrap (inS 17179869184 n - r)) (IntKind.i64.wrap (inS 17179869184 n + r))), I (cV 2 (makeI (IntKind.i64.wrap (inS 17179869184 n - r)) (IntKind.i64.wrap (inS 17179869184 n + r))))],
     iP2 [I (cV 0 (makeI (IntKind.i64.wrap (inS 17179869184 n - r)) (IntKind.i64.wrap (inS 17179869184 n + r)))), I (mulI (makeI (IntKind.i64.wrap (inS 17179869184 n - r)) (IntKind.i64.wrap (inS 17179869184 n + r))) (cV 2 (makeI (IntKind.i64.wrap (inS 17179869184 n - r)) (IntKind.i64.wrap (inS 17179869184 n + r)))))],
     iP2 [I (makeI (IntKind.i64.wrap (inS 17179869184 n - r)) (IntKind.i64.wrap (inS 17179869184 n + r))), I (cV 3 (makeI (IntKind.i64.wrap (inS 17179869184 n - r)) (IntKind.i64.wrap (inS 17179869184 n + r))))],
     iP2 [I (cV 1 (makeI (IntKind.i64.wrap (inS 17179869184 n - r)) (IntKind.i64.wrap (inS 17179869184 n + r)))), I (mulI (makeI (IntKind.i64.wrap (inS 17179869184 n - r)) (IntKind.i64.wrap (inS 17179869184 n + r))) (cV 3 (makeI (IntKind.i64.wrap (inS 17179869184 n - r)) (IntKind.i64.wrap (inS 17179869184 n + r)))))],
     iP2 [I (addI (cV 0 (makeI (IntKind.i64.wrap (inS 17179869184 n - r)) (IntKind.i64.wrap (inS 17179869184 n + r)))) (mulI (makeI (IntKind.i64.wrap (inS 17179869184 n - r)) (IntKind.i64.wrap (inS 17179869184 n + r))) (cV 2 (makeI (IntKind.i64.wrap (inS 17179869184 n - r)) (IntKind.i64.wrap (inS 17179869184 n + r)))))), I (ofI 1)],
     (!(holdsI (addI (cV 0 (makeI (IntKind.i64.wrap (inS 17179869184 n - r)) (IntKind.i64.wrap (inS 17179869184 n + r)))) (mulI (makeI (IntKind.i64.wrap (inS 17179869184 n - r)) (IntKind.i64.wrap (inS 17179869184 n + r))) (cV 2 (makeI (IntKind.i64.wrap (inS 17179869184 n - r)) (IntKind.i64.wrap (inS 17179869184 n + r)))))) (ofI 1))) = false,
     iP2 [I (addI (cV 1 (makeI (IntKind.i64.wrap (inS 17179869184 n - r)) (IntKind.i64.wrap (inS 17179869184 n + r)))) (mulI (makeI (IntKind.i64.wrap (inS 17179869184 n - r)) (IntKind.i64.wrap (inS 17179869184 n + r))) (cV 3 (makeI (IntKind.i64.wrap (inS 17179869184 n - r)) (IntKind.i64.wrap (inS 17179869184 n + r)))))), I (ofI 1)],
     (!(holdsI (addI (cV 1 (makeI (IntKind.i64.wrap (inS 17179869184 n - r)) (IntKind.i64.wrap (inS 17179869184 n + r)))) (mulI (makeI (IntKind.i64.wrap (inS 17179869184 n - r)) (IntKind.i64.wrap (inS 17179869184 n + r))) (cV 3 (makeI (IntKind.i64.wrap (inS 17179869184 n - r)) (IntKind.i64.wrap (inS 17179869184 n + r)))))) (ofI 1))) = false,
     wakesP []]) := by kernel_rfl
theorem so4_leaf (n r : Int)  (q0 : (decide (r < 0)) = false) (q1 : (decide (r > 1073741824)) = false) (q2 : (decide (inS 17179869184 n < -16106127360)) = false) (q3 : (decide (inS 17179869184 n > 16106127360)) = false) (q4 : (fineL [cV 0 (pointI (inS 17179869184 n)), cV 1 (pointI (inS 17179869184 n)), cV 2 (pointI (inS 17179869184 n)), cV 3 (pointI (inS 17179869184 n))]) = true) (q5 : (holdsI (addI (cV 0 (pointI (inS 17179869184 n))) (mulI (pointI (inS 17179869184 n)) (cV 2 (pointI (inS 17179869184 n))))) (ofI 1)) = true) (q6 : (holdsI (addI (cV 1 (pointI (inS 17179869184 n))) (mulI (pointI (inS 17179869184 n)) (cV 3 (pointI (inS 17179869184 n))))) (ofI 1)) = true) (q7 : (fineL [cV 0 (makeI (IntKind.i64.wrap (inS 17179869184 n - r)) (IntKind.i64.wrap (inS 17179869184 n + r))), cV 1 (makeI (IntKind.i64.wrap (inS 17179869184 n - r)) (IntKind.i64.wrap (inS 17179869184 n + r))), cV 2 (makeI (IntKind.i64.wrap (inS 17179869184 n - r)) (IntKind.i64.wrap (inS 17179869184 n + r))), cV 3 (makeI (IntKind.i64.wrap (inS 17179869184 n - r)) (IntKind.i64.wrap (inS 17179869184 n + r)))]) = true) (q8 : (holdsI (addI (cV 0 (makeI (IntKind.i64.wrap (inS 17179869184 n - r)) (IntKind.i64.wrap (inS 17179869184 n + r)))) (mulI (makeI (IntKind.i64.wrap (inS 17179869184 n - r)) (IntKind.i64.wrap (inS 17179869184 n + r))) (cV 2 (makeI (IntKind.i64.wrap (inS 17179869184 n - r)) (IntKind.i64.wrap (inS 17179869184 n + r)))))) (ofI 1)) = true) (q9 : (holdsI (addI (cV 1 (makeI (IntKind.i64.wrap (inS 17179869184 n - r)) (IntKind.i64.wrap (inS 17179869184 n + r)))) (mulI (makeI (IntKind.i64.wrap (inS 17179869184 n - r)) (IntKind.i64.wrap (inS 17179869184 n + r))) (cV 3 (makeI (IntKind.i64.wrap (inS 17179869184 n - r)) (IntKind.i64.wrap (inS 17179869184 n + r)))))) (ofI 1)) = true) : Gives P 5 #[.int .i64 n, .int .i64 r] (.bool true) := by
  have R := so4_run n r
  refine gives_of_run mo R (ps_cons ⟨by decide, by decide⟩ (ps_cons q0 (ps_cons q1 (ps_cons q2 (ps_cons q3 (ps_cons (by unfold nP1 I64; omega) (ps_cons (in_i 17179869184 n (by decide) (by decide)) (ps_cons (on_i (of_decide_eq_false q0) (of_decide_eq_false q1) (of_decide_eq_false q2) (of_decide_eq_false q3)) (ps_cons ⟨_, rfl⟩ (ps_cons (ivs_ok (by simp)) (ps_cons (neg_f q4) (ps_cons ⟨⟨_, rfl⟩, _, rfl⟩ (ps_cons ⟨⟨_, rfl⟩, _, rfl⟩ (ps_cons ⟨⟨_, rfl⟩, _, rfl⟩ (ps_cons ⟨⟨_, rfl⟩, _, rfl⟩ (ps_cons ⟨⟨_, rfl⟩, _, rfl⟩ (ps_cons (neg_f q5) (ps_cons ⟨⟨_, rfl⟩, _, rfl⟩ (ps_cons (neg_f q6) (ps_cons ⟨_, rfl⟩ (ps_cons (ivs_ok (by simp)) (ps_cons (neg_f q7) (ps_cons ⟨⟨_, rfl⟩, _, rfl⟩ (ps_cons ⟨⟨_, rfl⟩, _, rfl⟩ (ps_cons ⟨⟨_, rfl⟩, _, rfl⟩ (ps_cons ⟨⟨_, rfl⟩, _, rfl⟩ (ps_cons ⟨⟨_, rfl⟩, _, rfl⟩ (ps_cons (neg_f q8) (ps_cons ⟨⟨_, rfl⟩, _, rfl⟩ (ps_cons (neg_f q9) (ps_cons trivial ps_nil))))))))))))))))))))))))))))))) ?_
  rfl
theorem StumpffOnes_all (n r : Int) : Gives P 5 #[.int .i64 n, .int .i64 r] (.bool true) := by
  cases q0 : (decide (r < 0)) with
  | true =>
    exact so0_leaf n r  q0
  | false =>
    cases q1 : (decide (r > 1073741824)) with
    | true =>
      exact so1_leaf n r  q0 q1
    | false =>
      cases q2 : (decide (inS 17179869184 n < -16106127360)) with
      | true =>
        exact so2_leaf n r  q0 q1 q2
      | false =>
        cases q3 : (decide (inS 17179869184 n > 16106127360)) with
        | true =>
          exact so3_leaf n r  q0 q1 q2 q3
        | false =>
          have q4 : (fineL [cV 0 (pointI (inS 17179869184 n)), cV 1 (pointI (inS 17179869184 n)), cV 2 (pointI (inS 17179869184 n)), cV 3 (pointI (inS 17179869184 n))]) = true := (on_p n).f
          have q5 : (holdsI (addI (cV 0 (pointI (inS 17179869184 n))) (mulI (pointI (inS 17179869184 n)) (cV 2 (pointI (inS 17179869184 n))))) (ofI 1)) = true := (on_p n).x
          have q6 : (holdsI (addI (cV 1 (pointI (inS 17179869184 n))) (mulI (pointI (inS 17179869184 n)) (cV 3 (pointI (inS 17179869184 n))))) (ofI 1)) = true := (on_p n).y
          have q7 : (fineL [cV 0 (makeI (IntKind.i64.wrap (inS 17179869184 n - r)) (IntKind.i64.wrap (inS 17179869184 n + r))), cV 1 (makeI (IntKind.i64.wrap (inS 17179869184 n - r)) (IntKind.i64.wrap (inS 17179869184 n + r))), cV 2 (makeI (IntKind.i64.wrap (inS 17179869184 n - r)) (IntKind.i64.wrap (inS 17179869184 n + r))), cV 3 (makeI (IntKind.i64.wrap (inS 17179869184 n - r)) (IntKind.i64.wrap (inS 17179869184 n + r)))]) = true := (on_w (of_decide_eq_false q0) (of_decide_eq_false q1) (of_decide_eq_false q2) (of_decide_eq_false q3)).f
          have q8 : (holdsI (addI (cV 0 (makeI (IntKind.i64.wrap (inS 17179869184 n - r)) (IntKind.i64.wrap (inS 17179869184 n + r)))) (mulI (makeI (IntKind.i64.wrap (inS 17179869184 n - r)) (IntKind.i64.wrap (inS 17179869184 n + r))) (cV 2 (makeI (IntKind.i64.wrap (inS 17179869184 n - r)) (IntKind.i64.wrap (inS 17179869184 n + r)))))) (ofI 1)) = true := (on_w (of_decide_eq_false q0) (of_decide_eq_false q1) (of_decide_eq_false q2) (of_decide_eq_false q3)).x
          have q9 : (holdsI (addI (cV 1 (makeI (IntKind.i64.wrap (inS 17179869184 n - r)) (IntKind.i64.wrap (inS 17179869184 n + r)))) (mulI (makeI (IntKind.i64.wrap (inS 17179869184 n - r)) (IntKind.i64.wrap (inS 17179869184 n + r))) (cV 3 (makeI (IntKind.i64.wrap (inS 17179869184 n - r)) (IntKind.i64.wrap (inS 17179869184 n + r)))))) (ofI 1)) = true := (on_w (of_decide_eq_false q0) (of_decide_eq_false q1) (of_decide_eq_false q2) (of_decide_eq_false q3)).y
          exact so4_leaf n r  q0 q1 q2 q3 q4 q5 q6 q7 q8 q9
end Go.St
