/-
  The law QuotTells comes to true. Printed by tell3.py.
-/
import Derived.Test.YtpofhfhejnapkaaDoorQuotL
import Derived.Test.YtpofhfhejnapkaaDoorQtR
set_option maxRecDepth 100000
namespace Go.Qt
open Go Go.RowKit Go.Sx Go.Nm Go.Wd Go.Proofs
noncomputable def EQt : Env P := ⟨⟨Qt.wakes :: (quotCW ++ R3.ref3W), []⟩, [], 20, []⟩
theorem weq_same (a : Int) : weq a a = true := weq_self rfl
theorem neg_t {b : Bool} (h : b = false) : (!b) = true := by rw [h]; rfl
theorem neg_f {b : Bool} (h : b = true) : (!b) = false := by rw [h]; rfl
theorem qt0_leaf (a b x y z : Int) (hx : I64 x) (hy : I64 y) (hz : I64 z) (q0 : (weq (qv fq (tI (W a)) (tI (W b))) (qv fq (tI (W a)) (tI (W b)))) = true) (q1 : (qe (tI (W a)) (tI (W b)) != qe (tI (W a)) (tI (W b))) = false) (q2 : (weq (qv cq (tI (W a)) (tI (W b))) (qv cq (tI (W a)) (tI (W b)))) = true) (q3 : (weq (qv nq (tI (W a)) (tI (W b))) (qv nq (tI (W a)) (tI (W b)))) = true) (q4 : (weq (qv fr (tI (W a)) (tI (W b))) (qv fr (tI (W a)) (tI (W b)))) = true) (q5 : (weq (lv (tI (W a)) x) (lv (tI (W a)) x)) = true) (q6 : (le (tI (W a)) x == le (tI (W a)) x) = true) (q7 : (weq (rv (tI (W a)) x) (rv (tI (W a)) x)) = true) (q8 : (re (tI (W a)) x == re (tI (W a)) x) = true) (q9 : (iv x y z == iv x y z) = true) (q10 : (ie x y z == ie x y z) = true) : Gives P 3 #[W a, W b, .int .i64 x, .int .i64 y, .int .i64 z] (.bool true) := by
  refine gives_of_run (E := EQt) (lv := 1) (ds := (.b false :: (.b false :: (.b false :: (.b false :: (.b false :: (.b false :: (.b false :: (.b false :: (.b true :: (.b true :: (.b true :: (.b true :: (.b true :: (.b true :: []))))))))))))))) (v := .bool true) (ps := [P2 [W a, W b], P2 [W a, W b], P2 [W a, W b], P2 [W a, W b], (!(weq (qv fq (tI (W a)) (tI (W b))) (qv fq (tI (W a)) (tI (W b))))) = false, (qe (tI (W a)) (tI (W b)) != qe (tI (W a)) (tI (W b))) = false, (!(weq (qv cq (tI (W a)) (tI (W b))) (qv cq (tI (W a)) (tI (W b))))) = false, (qe (tI (W a)) (tI (W b)) != qe (tI (W a)) (tI (W b))) = false, P2 [W a, W b], P2 [W a, W b], P2 [W a, W b], P2 [W a, W b], (!(weq (qv nq (tI (W a)) (tI (W b))) (qv nq (tI (W a)) (tI (W b))))) = false, (qe (tI (W a)) (tI (W b)) != qe (tI (W a)) (tI (W b))) = false, (!(weq (qv fr (tI (W a)) (tI (W b))) (qv fr (tI (W a)) (tI (W b))))) = false, (qe (tI (W a)) (tI (W b)) != qe (tI (W a)) (tI (W b))) = false, shP [W a, .int .i64 x], shP [W a, .int .i64 x], shP [W a, .int .i64 x], shP [W a, .int .i64 x], intsP [.int .i64 x, .int .i64 y, .int .i64 z], intsP [.int .i64 x, .int .i64 y, .int .i64 z], (weq (lv (tI (W a)) x) (lv (tI (W a)) x)) = true, (le (tI (W a)) x == le (tI (W a)) x) = true, (weq (rv (tI (W a)) x) (rv (tI (W a)) x)) = true, (re (tI (W a)) x == re (tI (W a)) x) = true, (iv x y z == iv x y z) = true, (ie x y z == ie x y z) = true, noP []]) mo (by kernel_rfl) (ps_cons (P2_W _ _) (ps_cons (P2_W _ _) (ps_cons (P2_W _ _) (ps_cons (P2_W _ _) (ps_cons (neg_f q0) (ps_cons q1 (ps_cons (neg_f q2) (ps_cons q1 (ps_cons (P2_W _ _) (ps_cons (P2_W _ _) (ps_cons (P2_W _ _) (ps_cons (P2_W _ _) (ps_cons (neg_f q3) (ps_cons q1 (ps_cons (neg_f q4) (ps_cons q1 (ps_cons ⟨⟨_, rfl⟩, hx⟩ (ps_cons ⟨⟨_, rfl⟩, hx⟩ (ps_cons ⟨⟨_, rfl⟩, hx⟩ (ps_cons ⟨⟨_, rfl⟩, hx⟩ (ps_cons ⟨hx, hy, hz⟩ (ps_cons ⟨hx, hy, hz⟩ (ps_cons q5 (ps_cons q6 (ps_cons q7 (ps_cons q8 (ps_cons q9 (ps_cons q10 (ps_cons trivial ps_nil))))))))))))))))))))))))))))) ?_
  rfl
theorem QuotTells_all (a b x y z : Int) (hx : I64 x) (hy : I64 y) (hz : I64 z) : Gives P 3 #[W a, W b, .int .i64 x, .int .i64 y, .int .i64 z] (.bool true) := by
  have q0 : (weq (qv fq (tI (W a)) (tI (W b))) (qv fq (tI (W a)) (tI (W b)))) = true := (weq_same _)
  have q1 : (qe (tI (W a)) (tI (W b)) != qe (tI (W a)) (tI (W b))) = false := (by simp)
  have q2 : (weq (qv cq (tI (W a)) (tI (W b))) (qv cq (tI (W a)) (tI (W b)))) = true := (weq_same _)
  have q3 : (weq (qv nq (tI (W a)) (tI (W b))) (qv nq (tI (W a)) (tI (W b)))) = true := (weq_same _)
  have q4 : (weq (qv fr (tI (W a)) (tI (W b))) (qv fr (tI (W a)) (tI (W b)))) = true := (weq_same _)
  have q5 : (weq (lv (tI (W a)) x) (lv (tI (W a)) x)) = true := (weq_same _)
  have q6 : (le (tI (W a)) x == le (tI (W a)) x) = true := (by simp)
  have q7 : (weq (rv (tI (W a)) x) (rv (tI (W a)) x)) = true := (weq_same _)
  have q8 : (re (tI (W a)) x == re (tI (W a)) x) = true := (by simp)
  have q9 : (iv x y z == iv x y z) = true := (by simp)
  have q10 : (ie x y z == ie x y z) = true := (by simp)
  exact qt0_leaf a b x y z hx hy hz q0 q1 q2 q3 q4 q5 q6 q7 q8 q9 q10
end Go.Qt
