/-
  The law OrbitEnds comes to true. Printed by orC.py.
-/
import Derived.Test.YthadbpnapbmppaaGreatDoorOrG
set_option maxRecDepth 100000
namespace Go.Or
open Go Go.RowKit Go.Sx Go.Nm Go.Wd Go.Qt Go.Iv Go.An Go.Wv Go.Nv Go.Ke Go.Proofs
noncomputable def EOn : Env P := ⟨⟨[oMay, oWakes] ++ orbC ++ R5.rf5C, [rFine]⟩, [], 20, []⟩
theorem on0_run (a e m : Int) : runF P EOn 1 8 [.int .i64 a, .int .i64 e, .int .i64 m] (.b false :: (.b false :: (.b false :: (.b false :: (.b true :: (.b true :: (.b true :: (.b true :: (.b true :: (.b true :: (.b true :: []))))))))))) =
  some (.bool true, [i3P [.int .i64 a, .int .i64 e, .int .i64 m], (!(plO a e m)) = false, i3P [.int .i64 a, .int .i64 e, .int .i64 0], i3P [.int .i64 a, .int .i64 e, .int .i64 m], i3P [.int .i64 a, .int .i64 0, .int .i64 m], (plE a e 0 != 0) = false, (plE a e m != 0) = false, (plE a 0 m != 0) = false, nP1 [.int .i64 (IntKind.i64.wrap (1073741824 - e))], partP [I (pointI (IntKind.i64.wrap (1073741824 - e))), .int .i64 a, .int .i64 1], partP [I (xI a 0 m), .int .i64 1, .int .i64 a], partP [I (yI a 0 m), .int .i64 1, .int .i64 a], iP2 [I (partI (xI a 0 m) 1 a), I (partI (xI a 0 m) 1 a)], iP2 [I (partI (yI a 0 m) 1 a), I (partI (yI a 0 m) 1 a)], iP2 [I (mulI (partI (xI a 0 m) 1 a) (partI (xI a 0 m) 1 a)), I (mulI (partI (yI a 0 m) 1 a) (partI (yI a 0 m) 1 a))], iP2 [I (xI a e 0), I (partI (pointI (IntKind.i64.wrap (1073741824 - e))) a 1)], (holdsI (xI a e 0) (partI (pointI (IntKind.i64.wrap (1073741824 - e))) a 1)) = true, nP1 [.int .i64 0], iP2 [I (yI a e 0), I (pointI 0)], (holdsI (yI a e 0) (pointI 0)) = true, (decide (atX a e m ≤ IntKind.i64.wrap (IntKind.i64.wrap (a + (IntKind.i64.wrap ((IntKind.i64.wrap (a * e)).tdiv 1073741824))) + 2))) = true, (decide (atX a e m ≥ IntKind.i64.wrap (0 - (IntKind.i64.wrap (IntKind.i64.wrap (a + (IntKind.i64.wrap ((IntKind.i64.wrap (a * e)).tdiv 1073741824))) + 2))))) = true, (decide (atY a e m ≤ IntKind.i64.wrap (IntKind.i64.wrap (a + (IntKind.i64.wrap ((IntKind.i64.wrap (a * e)).tdiv 1073741824))) + 2))) = true, (decide (atY a e m ≥ -1)) = true, nP1 [.int .i64 1], iP2 [I (addI (mulI (partI (xI a 0 m) 1 a) (partI (xI a 0 m) 1 a)) (mulI (partI (yI a 0 m) 1 a) (partI (yI a 0 m) 1 a))), I (ofI 1)], (holdsI (addI (mulI (partI (xI a 0 m) 1 a) (partI (xI a 0 m) 1 a)) (mulI (partI (yI a 0 m) 1 a) (partI (yI a 0 m) 1 a))) (ofI 1)) = true, wakesP []]) := by kernel_rfl
theorem on0_leaf (a e m : Int) (ha : I64 a) (he : I64 e) (hm : I64 m) (q0 : (plO a e m) = true) (q1 : (plE a e 0 != 0) = false) (q2 : (plE a e m != 0) = false) (q3 : (plE a 0 m != 0) = false) (q4 : (holdsI (xI a e 0) (partI (pointI (IntKind.i64.wrap (1073741824 - e))) a 1)) = true) (q5 : (holdsI (yI a e 0) (pointI 0)) = true) (q6 : (decide (atX a e m ≤ IntKind.i64.wrap (IntKind.i64.wrap (a + (IntKind.i64.wrap ((IntKind.i64.wrap (a * e)).tdiv 1073741824))) + 2))) = true) (q7 : (decide (atX a e m ≥ IntKind.i64.wrap (0 - (IntKind.i64.wrap (IntKind.i64.wrap (a + (IntKind.i64.wrap ((IntKind.i64.wrap (a * e)).tdiv 1073741824))) + 2))))) = true) (q8 : (decide (atY a e m ≤ IntKind.i64.wrap (IntKind.i64.wrap (a + (IntKind.i64.wrap ((IntKind.i64.wrap (a * e)).tdiv 1073741824))) + 2))) = true) (q9 : (decide (atY a e m ≥ -1)) = true) (q10 : (holdsI (addI (mulI (partI (xI a 0 m) 1 a) (partI (xI a 0 m) 1 a)) (mulI (partI (yI a 0 m) 1 a) (partI (yI a 0 m) 1 a))) (ofI 1)) = true) : Gives P 8 #[.int .i64 a, .int .i64 e, .int .i64 m] (.bool true) := by
  have _u := And.intro ha (And.intro he hm)
  have R := on0_run a e m
  refine gives_of_run mo R (ps_cons ⟨ha, he, hm⟩ (ps_cons (neg_f q0) (ps_cons ⟨ha, he, (by unfold I64; decide)⟩ (ps_cons ⟨ha, he, hm⟩ (ps_cons ⟨ha, (by unfold I64; decide), hm⟩ (ps_cons q1 (ps_cons q2 (ps_cons q3 (ps_cons (wi _) (ps_cons ⟨⟨_, rfl⟩, ha, (by unfold I64; decide)⟩ (ps_cons ⟨⟨_, rfl⟩, (by unfold I64; decide), ha⟩ (ps_cons ⟨⟨_, rfl⟩, (by unfold I64; decide), ha⟩ (ps_cons ⟨⟨_, rfl⟩, _, rfl⟩ (ps_cons ⟨⟨_, rfl⟩, _, rfl⟩ (ps_cons ⟨⟨_, rfl⟩, _, rfl⟩ (ps_cons ⟨⟨_, rfl⟩, _, rfl⟩ (ps_cons q4 (ps_cons (by unfold nP1 I64; decide) (ps_cons ⟨⟨_, rfl⟩, _, rfl⟩ (ps_cons q5 (ps_cons q6 (ps_cons q7 (ps_cons q8 (ps_cons q9 (ps_cons (by unfold nP1 I64; decide) (ps_cons ⟨⟨_, rfl⟩, _, rfl⟩ (ps_cons q10 (ps_cons trivial ps_nil)))))))))))))))))))))))))))) ?_
  rfl
theorem on1_run (a e m : Int) : runF P EOn 1 8 [.int .i64 a, .int .i64 e, .int .i64 m] (.b true :: []) =
  some (.bool true, [i3P [.int .i64 a, .int .i64 e, .int .i64 m], (!(plO a e m)) = true, wakesP []]) := by kernel_rfl
theorem on1_leaf (a e m : Int) (ha : I64 a) (he : I64 e) (hm : I64 m) (q0 : (plO a e m) = false) : Gives P 8 #[.int .i64 a, .int .i64 e, .int .i64 m] (.bool true) := by
  have _u := And.intro ha (And.intro he hm)
  have R := on1_run a e m
  refine gives_of_run mo R (ps_cons ⟨ha, he, hm⟩ (ps_cons (neg_t q0) (ps_cons trivial ps_nil))) ?_
  rfl
theorem OrbitEnds_all (a e m : Int) (ha : I64 a) (he : I64 e) (hm : I64 m) : Gives P 8 #[.int .i64 a, .int .i64 e, .int .i64 m] (.bool true) := by
  cases q0 : (plO a e m) with
  | true =>
    have q1 : (plE a e 0 != 0) = false := (on q0).e0
    have q2 : (plE a e m != 0) = false := (on q0).e1
    have q3 : (plE a 0 m != 0) = false := (on q0).e2
    have q4 : (holdsI (xI a e 0) (partI (pointI (IntKind.i64.wrap (1073741824 - e))) a 1)) = true := (on q0).x
    have q5 : (holdsI (yI a e 0) (pointI 0)) = true := (on q0).y
    have q6 : (decide (atX a e m ≤ IntKind.i64.wrap (IntKind.i64.wrap (a + (IntKind.i64.wrap ((IntKind.i64.wrap (a * e)).tdiv 1073741824))) + 2))) = true := (decide_eq_true (on q0).x1)
    have q7 : (decide (atX a e m ≥ IntKind.i64.wrap (0 - (IntKind.i64.wrap (IntKind.i64.wrap (a + (IntKind.i64.wrap ((IntKind.i64.wrap (a * e)).tdiv 1073741824))) + 2))))) = true := (decide_eq_true (on q0).x2)
    have q8 : (decide (atY a e m ≤ IntKind.i64.wrap (IntKind.i64.wrap (a + (IntKind.i64.wrap ((IntKind.i64.wrap (a * e)).tdiv 1073741824))) + 2))) = true := (decide_eq_true (on q0).y1)
    have q9 : (decide (atY a e m ≥ -1)) = true := (decide_eq_true (on q0).y2)
    have q10 : (holdsI (addI (mulI (partI (xI a 0 m) 1 a) (partI (xI a 0 m) 1 a)) (mulI (partI (yI a 0 m) 1 a) (partI (yI a 0 m) 1 a))) (ofI 1)) = true := (on q0).c
    exact on0_leaf a e m ha he hm q0 q1 q2 q3 q4 q5 q6 q7 q8 q9 q10
  | false =>
    exact on1_leaf a e m ha he hm q0
end Go.Or
