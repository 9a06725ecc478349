/-
  The laws OrbitEllipse and OrbitEnds come to true. Printed by orC.py.
-/
import Derived.Test.YthadbpnapbmppaaGreatDoorOrG
import Derived.Test.YthadbpnapbmppaaGreatDoorRf6
set_option maxRecDepth 100000
namespace Go.Or
open Go Go.RowKit Go.Sx Go.Nm Go.Wd Go.Qt Go.Iv Go.An Go.Wv Go.Nv Go.Ke Go.Proofs
noncomputable def EOe : Env P := ⟨⟨[oMay, oWakes, R6.cSq6, R6.cQ6] ++ orbC ++ R5.rf5C, [rFine]⟩, [], 20, []⟩
theorem oe0_run (a e m : Int) : runF P EOe 2 7 [.int .i64 a, .int .i64 e, .int .i64 m] (.b false :: (.b false :: (.b false :: (.lit :: (.b false :: (.b false :: (.b false :: (.b false :: (.lit :: (.b true :: (.b true :: (.b true :: (.b true :: (.b true :: (.b true :: (.b true :: (.b true :: []))))))))))))))))) =
  some (.bool true, [i3P [.int .i64 a, .int .i64 e, .int .i64 m], i3P [.int .i64 a, .int .i64 e, .int .i64 m], (!(plO a e m)) = false, partP [I (xI a e m), .int .i64 1, .int .i64 a], nP1 [.int .i64 e], iP2 [I (partI (xI a e m) 1 a), I (pointI e)], partP [I (yI a e m), .int .i64 1, .int .i64 a], nP1 [.int .i64 1], nP1 [.int .i64 e], iP1 [I (pointI e)], iP2 [I (ofI 1), I (squareI (pointI e))], iP2 [I (addI (partI (xI a e m) 1 a) (pointI e)), I (addI (partI (xI a e m) 1 a) (pointI e))], iP2 [I (partI (yI a e m) 1 a), I (partI (yI a e m) 1 a)], iP2 [I (mulI (partI (yI a e m) 1 a) (partI (yI a e m) 1 a)), I (subI (ofI 1) (squareI (pointI e)))], iP2 [I (mulI (addI (partI (xI a e m) 1 a) (pointI e)) (addI (partI (xI a e m) 1 a) (pointI e))), I (quotI (mulI (partI (yI a e m) 1 a) (partI (yI a e m) 1 a)) (subI (ofI 1) (squareI (pointI e))))], i3P [.int .i64 a, .int .i64 e, .int .i64 m], (plE a e m != 0) = false, (plE a e m != 0) = false, fineP [ivs [xI a e m, yI a e m]], (!(fineL [xI a e m, yI a e m])) = false, nP1 [.int .i64 1], iP2 [I (addI (mulI (addI (partI (xI a e m) 1 a) (pointI e)) (addI (partI (xI a e m) 1 a) (pointI e))) (quotI (mulI (partI (yI a e m) 1 a) (partI (yI a e m) 1 a)) (subI (ofI 1) (squareI (pointI e))))), I (ofI 1)], (!(holdsI (addI (mulI (addI (partI (xI a e m) 1 a) (pointI e)) (addI (partI (xI a e m) 1 a) (pointI e))) (quotI (mulI (partI (yI a e m) 1 a) (partI (yI a e m) 1 a)) (subI (ofI 1) (squareI (pointI e))))) (ofI 1))) = false, (decide (atR a e m < 0)) = false, (decide (atR a e m > 1)) = false, (decide (atX a e m ≥ -1048576)) = true, (decide (atX a e m ≤ 1048576)) = true, (decide (IntKind.i64.wrap ((IntKind.i64.wrap (atX a e m - (atR a e m))) * 1073741824) ≤ (xI a e m).lo)) = true, (decide ((xI a e m).hi ≤ IntKind.i64.wrap ((IntKind.i64.wrap (atX a e m + (atR a e m))) * 1073741824))) = true, (decide (atY a e m ≥ -1048576)) = true, (decide (atY a e m ≤ 1048576)) = true, (decide (IntKind.i64.wrap ((IntKind.i64.wrap (atY a e m - (atR a e m))) * 1073741824) ≤ (yI a e m).lo)) = true, (decide ((yI a e m).hi ≤ IntKind.i64.wrap ((IntKind.i64.wrap (atY a e m + (atR a e m))) * 1073741824))) = true, wakesP []]) := by kernel_rfl
theorem oe0_leaf (a e m : Int) (ha : I64 a) (he : I64 e) (hm : I64 m) (q0 : (plO a e m) = true) (q1 : (plE a e m != 0) = false) (q2 : (fineL [xI a e m, yI a e m]) = true) (q3 : (holdsI (addI (mulI (addI (partI (xI a e m) 1 a) (pointI e)) (addI (partI (xI a e m) 1 a) (pointI e))) (quotI (mulI (partI (yI a e m) 1 a) (partI (yI a e m) 1 a)) (subI (ofI 1) (squareI (pointI e))))) (ofI 1)) = true) (q4 : (decide (atR a e m < 0)) = false) (q5 : (decide (atR a e m > 1)) = false) (q6 : (decide (atX a e m ≥ -1048576)) = true) (q7 : (decide (atX a e m ≤ 1048576)) = true) (q8 : (decide (IntKind.i64.wrap ((IntKind.i64.wrap (atX a e m - (atR a e m))) * 1073741824) ≤ (xI a e m).lo)) = true) (q9 : (decide ((xI a e m).hi ≤ IntKind.i64.wrap ((IntKind.i64.wrap (atX a e m + (atR a e m))) * 1073741824))) = true) (q10 : (decide (atY a e m ≥ -1048576)) = true) (q11 : (decide (atY a e m ≤ 1048576)) = true) (q12 : (decide (IntKind.i64.wrap ((IntKind.i64.wrap (atY a e m - (atR a e m))) * 1073741824) ≤ (yI a e m).lo)) = true) (q13 : (decide ((yI a e m).hi ≤ IntKind.i64.wrap ((IntKind.i64.wrap (atY a e m + (atR a e m))) * 1073741824))) = true) : Gives P 7 #[.int .i64 a, .int .i64 e, .int .i64 m] (.bool true) := by
  have _u := And.intro ha (And.intro he hm)
  have R := oe0_run a e m
  refine gives_of_run mo R (ps_cons ⟨ha, he, hm⟩ (ps_cons ⟨ha, he, hm⟩ (ps_cons (neg_f q0) (ps_cons ⟨⟨_, rfl⟩, (by unfold I64; decide), ha⟩ (ps_cons he (ps_cons ⟨⟨_, rfl⟩, _, rfl⟩ (ps_cons ⟨⟨_, rfl⟩, (by unfold I64; decide), ha⟩ (ps_cons (by unfold nP1 I64; decide) (ps_cons he (ps_cons ⟨_, rfl⟩ (ps_cons ⟨⟨_, rfl⟩, _, rfl⟩ (ps_cons ⟨⟨_, rfl⟩, _, rfl⟩ (ps_cons ⟨⟨_, rfl⟩, _, rfl⟩ (ps_cons ⟨⟨_, rfl⟩, _, rfl⟩ (ps_cons ⟨⟨_, rfl⟩, _, rfl⟩ (ps_cons ⟨ha, he, hm⟩ (ps_cons q1 (ps_cons q1 (ps_cons (ivs_ok (by simp)) (ps_cons (neg_f q2) (ps_cons (by unfold nP1 I64; decide) (ps_cons ⟨⟨_, rfl⟩, _, rfl⟩ (ps_cons (neg_f q3) (ps_cons q4 (ps_cons q5 (ps_cons q6 (ps_cons q7 (ps_cons q8 (ps_cons q9 (ps_cons q10 (ps_cons q11 (ps_cons q12 (ps_cons q13 (ps_cons trivial ps_nil)))))))))))))))))))))))))))))))))) ?_
  rfl
theorem oe1_run (a e m : Int) : runF P EOe 1 7 [.int .i64 a, .int .i64 e, .int .i64 m] (.b true :: (.b true :: (.b true :: (.b true :: [])))) =
  some (.bool true, [i3P [.int .i64 a, .int .i64 e, .int .i64 m], i3P [.int .i64 a, .int .i64 e, .int .i64 m], (!(plO a e m)) = true, (plE a e m == 2) = true, ((xI a e m).bad) = true, ((yI a e m).bad) = true, wakesP []]) := by kernel_rfl
theorem oe1_leaf (a e m : Int) (ha : I64 a) (he : I64 e) (hm : I64 m) (q0 : (plO a e m) = false) (q1 : (plE a e m == 2) = true) (q2 : ((xI a e m).bad) = true) (q3 : ((yI a e m).bad) = true) : Gives P 7 #[.int .i64 a, .int .i64 e, .int .i64 m] (.bool true) := by
  have _u := And.intro ha (And.intro he hm)
  have R := oe1_run a e m
  refine gives_of_run mo R (ps_cons ⟨ha, he, hm⟩ (ps_cons ⟨ha, he, hm⟩ (ps_cons (neg_t q0) (ps_cons q1 (ps_cons q2 (ps_cons q3 (ps_cons trivial ps_nil))))))) ?_
  rfl
theorem OrbitEllipse_all (a e m : Int) (ha : I64 a) (he : I64 e) (hm : I64 m) : Gives P 7 #[.int .i64 a, .int .i64 e, .int .i64 m] (.bool true) := by
  cases q0 : (plO a e m) with
  | true =>
    have q1 : (plE a e m != 0) = false := (oe q0).e0
    have q2 : (fineL [xI a e m, yI a e m]) = true := (oe q0).f
    have q3 : (holdsI (addI (mulI (addI (partI (xI a e m) 1 a) (pointI e)) (addI (partI (xI a e m) 1 a) (pointI e))) (quotI (mulI (partI (yI a e m) 1 a) (partI (yI a e m) 1 a)) (subI (ofI 1) (squareI (pointI e))))) (ofI 1)) = true := (oe q0).h
    have q4 : (decide (atR a e m < 0)) = false := (decide_eq_false (oe q0).r0)
    have q5 : (decide (atR a e m > 1)) = false := (decide_eq_false (oe q0).r1)
    have q6 : (decide (atX a e m ≥ -1048576)) = true := (decide_eq_true (oe q0).x0)
    have q7 : (decide (atX a e m ≤ 1048576)) = true := (decide_eq_true (oe q0).x1)
    have q8 : (decide (IntKind.i64.wrap ((IntKind.i64.wrap (atX a e m - (atR a e m))) * 1073741824) ≤ (xI a e m).lo)) = true := (decide_eq_true (oe q0).xa)
    have q9 : (decide ((xI a e m).hi ≤ IntKind.i64.wrap ((IntKind.i64.wrap (atX a e m + (atR a e m))) * 1073741824))) = true := (decide_eq_true (oe q0).xb)
    have q10 : (decide (atY a e m ≥ -1048576)) = true := (decide_eq_true (oe q0).y0)
    have q11 : (decide (atY a e m ≤ 1048576)) = true := (decide_eq_true (oe q0).y1)
    have q12 : (decide (IntKind.i64.wrap ((IntKind.i64.wrap (atY a e m - (atR a e m))) * 1073741824) ≤ (yI a e m).lo)) = true := (decide_eq_true (oe q0).ya)
    have q13 : (decide ((yI a e m).hi ≤ IntKind.i64.wrap ((IntKind.i64.wrap (atY a e m + (atR a e m))) * 1073741824))) = true := (decide_eq_true (oe q0).yb)
    exact oe0_leaf a e m ha he hm q0 q1 q2 q3 q4 q5 q6 q7 q8 q9 q10 q11 q12 q13
  | false =>
    have q1 : (plE a e m == 2) = true := (by rw [(oe_no q0).1]; rfl)
    have q2 : ((xI a e m).bad) = true := (oe_no q0).2.1
    have q3 : ((yI a e m).bad) = true := (oe_no q0).2.2
    exact oe1_leaf a e m ha he hm q0 q1 q2 q3
end Go.Or
