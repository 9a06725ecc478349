/-
  The law WideTells comes to true. Printed by tell2.py.
-/
import Derived.Test.YtpofhfhejnapkaaTwA
set_option maxRecDepth 100000
namespace Go.Tw
open Go Go.RowKit Go.Sx Go.Nm Go.Wd Go.Proofs
noncomputable def E0 : Env P := ⟨⟨wideC, []⟩, [], 20, []⟩
theorem wk_run : runF P E0 1 4 [] [] =
  some (.bool true, [P2 [W 170141183460469231731687303715884105728, W 170141183460469231731687303715884105728], ofP [.int .i64 1], P2 [W 57896044618658097711785492504343953926634992332820282019728792003956564819967, W 1], ofP [.int .i64 (-7)], P1 [W (-7)], P1 [W 57896044618658097711785492504343953926634992332820282019728792003956564819967], P1 [W (tI (W 57896044618658097711785492504343953926634992332820282019728792003956564819967) + tI (W 1))], ofP [.int .i64 (-3)], ofP [.int .i64 5], P2 [W (-3), W 5], ofP [.int .i64 (-15)], P2 [W (tI (W 57896044618658097711785492504343953926634992332820282019728792003956564819967) + tI (W 1)), W 57896044618658097711785492504343953926634992332820282019728792003956564819967], P1 [W (tI (W (-3)) * tI (W 5))], P1 [W 0]]) := by kernel_rfl
def wkP : List Value → Prop
  | [] => True
  | _ => False
theorem wk_gives (args : List Value) (h : wkP args) : Gives P 4 args.toArray (.bool true) := by
  unfold wkP at h
  split at h
  · exact gives_of_run mo wk_run (ps_cons (P2_W _ _) (ps_cons ⟨by decide, by decide⟩ (ps_cons (P2_W _ _) (ps_cons ⟨by decide, by decide⟩ (ps_cons (P1_W _) (ps_cons (P1_W _) (ps_cons (P1_W _) (ps_cons ⟨by decide, by decide⟩ (ps_cons ⟨by decide, by decide⟩ (ps_cons (P2_W _ _) (ps_cons ⟨by decide, by decide⟩ (ps_cons (P2_W _ _) (ps_cons (P1_W _) (ps_cons (P1_W _) ps_nil)))))))))))))) rfl
  · exact h.elim
noncomputable def c_wk : Ctr P := ⟨4, wkP, fun _ => .bool true, wk_gives⟩
noncomputable def E1 : Env P := ⟨⟨c_wk :: (wideC ++ Rd.refC), [ws_c, rs_c]⟩, [], 20, []⟩
theorem neg_f {b : Bool} (h : b = true) : (!b) = false := by rw [h]; rfl
theorem weq_same (a : Int) : weq a a = true := by rw [weq_eq]; exact decide_eq_true rfl
theorem wt0_leaf (a b m : Int) (n : Nat) (x : Nat → Int) (hm : I64 m) (q0 : (decide (((n : Nat) : Int) > 50)) = true) : GivesD P 3 [.v (W a), .v (W b), .v (.int .i64 m), .row ⟨24, 4, n, fun j => W (x j), false⟩] (.bool true) := by
  have _u := hm
  try (have q0b := of_decide_eq_false q0)
  refine givesD_of_run (E := E1) (lv := 1) (ds := (.b true :: [])) (v := .bool true) (ps := [(decide (((n : Nat) : Int) > 50)) = true, wkP []]) mo (by kernel_rfl) (ps_cons q0 (ps_cons trivial ps_nil)) ?_
  rfl
theorem wt1_leaf (a b m : Int) (n : Nat) (x : Nat → Int) (hm : I64 m) (q0 : (decide (((n : Nat) : Int) > 50)) = false) (q1 : (weq (tI (W a) + tI (W b)) (tI (W a) + tI (W b))) = true) (q2 : ((!inRB (tI (W a) + tI (W b))) != (!inRB (tI (W a) + tI (W b)))) = false) (q3 : (weq (tI (W a) - tI (W b)) (tI (W a) - tI (W b))) = true) (q4 : ((!inRB (tI (W a) - tI (W b))) != (!inRB (tI (W a) - tI (W b)))) = false) (q5 : (weq (tI (W a) * tI (W b)) (tI (W a) * tI (W b))) = true) (q6 : ((!inRB (tI (W a) * tI (W b))) != (!inRB (tI (W a) * tI (W b)))) = false) (q7 : (weq (-tI (W a)) (-tI (W a))) = true) (q8 : ((!inRB (-tI (W a))) != (!inRB (-tI (W a)))) = false) (q9 : (weq (sW (fun j => tI (W (x j))) n) (sW (fun j => tI (W (x j))) n)) = true) (q10 : ((sO (fun j => tI (W (x j))) n) == (sO (fun j => tI (W (x j))) n)) = true) (q11 : ((if i64B (tI (W a)) then tI (W a) else 0) == (if i64B (tI (W a)) then tI (W a) else 0)) = true) (q12 : ((i64B (tI (W a))) == (i64B (tI (W a)))) = true) (q13 : (weq m m) = true) (q14 : (cmp3 (tI (W a)) (tI (W b)) == cmp3 (tI (W a)) (tI (W b))) = true) (q15 : (cmp3 (tI (W a)) 0 == cmp3 (tI (W a)) 0) = true) : GivesD P 3 [.v (W a), .v (W b), .v (.int .i64 m), .row ⟨24, 4, n, fun j => W (x j), false⟩] (.bool true) := by
  have _u := hm
  try (have q0b := of_decide_eq_false q0)
  refine givesD_of_run (E := E1) (lv := 1) (ds := (.b false :: (.b false :: (.b false :: (.b false :: (.b false :: (.b false :: (.b false :: (.b false :: (.b false :: (.b true :: (.b true :: (.b true :: (.b true :: (.b true :: (.b true :: (.b true :: []))))))))))))))))) (v := .bool true) (ps := [(decide (((n : Nat) : Int) > 50)) = false, P2 [W a, W b], P2 [W a, W b], P2 [W a, W b], P2 [W a, W b], (!(weq (tI (W a) + tI (W b)) (tI (W a) + tI (W b)))) = false, ((!inRB (tI (W a) + tI (W b))) != (!inRB (tI (W a) + tI (W b)))) = false, (!(weq (tI (W a) - tI (W b)) (tI (W a) - tI (W b)))) = false, ((!inRB (tI (W a) - tI (W b))) != (!inRB (tI (W a) - tI (W b)))) = false, P2 [W a, W b], P2 [W a, W b], P1 [W a], P1 [W a], (!(weq (tI (W a) * tI (W b)) (tI (W a) * tI (W b)))) = false, ((!inRB (tI (W a) * tI (W b))) != (!inRB (tI (W a) * tI (W b)))) = false, (!(weq (-tI (W a)) (-tI (W a)))) = false, ((!inRB (-tI (W a))) != (!inRB (-tI (W a)))) = false, sumP [.row ⟨24, 4, n, fun j => W (x j), false⟩], sumP [.row ⟨24, 4, n, fun j => W (x j), false⟩], P1 [W a], P1 [W a], (weq (sW (fun j => tI (W (x j))) n) (sW (fun j => tI (W (x j))) n)) = true, ((sO (fun j => tI (W (x j))) n) == (sO (fun j => tI (W (x j))) n)) = true, ((if i64B (tI (W a)) then tI (W a) else 0) == (if i64B (tI (W a)) then tI (W a) else 0)) = true, ((i64B (tI (W a))) == (i64B (tI (W a)))) = true, ofP [.int .i64 m], ofP [.int .i64 m], (weq m m) = true, P2 [W a, W b], P2 [W a, W b], (cmp3 (tI (W a)) (tI (W b)) == cmp3 (tI (W a)) (tI (W b))) = true, P1 [W a], P1 [W a], (cmp3 (tI (W a)) 0 == cmp3 (tI (W a)) 0) = true, wkP []]) mo (by kernel_rfl) (ps_cons q0 (ps_cons (P2_W _ _) (ps_cons (P2_W _ _) (ps_cons (P2_W _ _) (ps_cons (P2_W _ _) (ps_cons (neg_f q1) (ps_cons q2 (ps_cons (neg_f q3) (ps_cons q4 (ps_cons (P2_W _ _) (ps_cons (P2_W _ _) (ps_cons (P1_W _) (ps_cons (P1_W _) (ps_cons (neg_f q5) (ps_cons q6 (ps_cons (neg_f q7) (ps_cons q8 (ps_cons ⟨rfl, (show n ≤ 1000000 by omega), fun j _ => ⟨_, rfl⟩⟩ (ps_cons ⟨rfl, (show n ≤ 1000000 by omega), fun j _ => ⟨_, rfl⟩⟩ (ps_cons (P1_W _) (ps_cons (P1_W _) (ps_cons q9 (ps_cons q10 (ps_cons q11 (ps_cons q12 (ps_cons hm (ps_cons hm (ps_cons q13 (ps_cons (P2_W _ _) (ps_cons (P2_W _ _) (ps_cons q14 (ps_cons (P1_W _) (ps_cons (P1_W _) (ps_cons q15 (ps_cons trivial ps_nil))))))))))))))))))))))))))))))))))) ?_
  rfl
theorem WideTells_row (a b m : Int) (n : Nat) (x : Nat → Int) (hm : I64 m) : GivesD P 3 [.v (W a), .v (W b), .v (.int .i64 m), .row ⟨24, 4, n, fun j => W (x j), false⟩] (.bool true) := by
  rcases Bool.eq_false_or_eq_true (decide (((n : Nat) : Int) > 50)) with q0 | q0
  · exact wt0_leaf a b m n x hm q0
  · have q1 : (weq (tI (W a) + tI (W b)) (tI (W a) + tI (W b))) = true := (weq_same _)
    have q2 : ((!inRB (tI (W a) + tI (W b))) != (!inRB (tI (W a) + tI (W b)))) = false := (by simp)
    have q3 : (weq (tI (W a) - tI (W b)) (tI (W a) - tI (W b))) = true := (weq_same _)
    have q4 : ((!inRB (tI (W a) - tI (W b))) != (!inRB (tI (W a) - tI (W b)))) = false := (by simp)
    have q5 : (weq (tI (W a) * tI (W b)) (tI (W a) * tI (W b))) = true := (weq_same _)
    have q6 : ((!inRB (tI (W a) * tI (W b))) != (!inRB (tI (W a) * tI (W b)))) = false := (by simp)
    have q7 : (weq (-tI (W a)) (-tI (W a))) = true := (weq_same _)
    have q8 : ((!inRB (-tI (W a))) != (!inRB (-tI (W a)))) = false := (by simp)
    have q9 : (weq (sW (fun j => tI (W (x j))) n) (sW (fun j => tI (W (x j))) n)) = true := (weq_same _)
    have q10 : ((sO (fun j => tI (W (x j))) n) == (sO (fun j => tI (W (x j))) n)) = true := (by simp)
    have q11 : ((if i64B (tI (W a)) then tI (W a) else 0) == (if i64B (tI (W a)) then tI (W a) else 0)) = true := (by simp)
    have q12 : ((i64B (tI (W a))) == (i64B (tI (W a)))) = true := (by simp)
    have q13 : (weq m m) = true := (weq_same _)
    have q14 : (cmp3 (tI (W a)) (tI (W b)) == cmp3 (tI (W a)) (tI (W b))) = true := (by simp)
    have q15 : (cmp3 (tI (W a)) 0 == cmp3 (tI (W a)) 0) = true := (by simp)
    exact wt1_leaf a b m n x hm q0 q1 q2 q3 q4 q5 q6 q7 q8 q9 q10 q11 q12 q13 q14 q15
theorem wn0_leaf (a b m : Int) (hm : I64 m) (q0 : (weq (tI (W a) + tI (W b)) (tI (W a) + tI (W b))) = true) (q1 : ((!inRB (tI (W a) + tI (W b))) != (!inRB (tI (W a) + tI (W b)))) = false) (q2 : (weq (tI (W a) - tI (W b)) (tI (W a) - tI (W b))) = true) (q3 : ((!inRB (tI (W a) - tI (W b))) != (!inRB (tI (W a) - tI (W b)))) = false) (q4 : (weq (tI (W a) * tI (W b)) (tI (W a) * tI (W b))) = true) (q5 : ((!inRB (tI (W a) * tI (W b))) != (!inRB (tI (W a) * tI (W b)))) = false) (q6 : (weq (-tI (W a)) (-tI (W a))) = true) (q7 : ((!inRB (-tI (W a))) != (!inRB (-tI (W a)))) = false) (q8 : ((if i64B (tI (W a)) then tI (W a) else 0) == (if i64B (tI (W a)) then tI (W a) else 0)) = true) (q9 : ((i64B (tI (W a))) == (i64B (tI (W a)))) = true) (q10 : (weq m m) = true) (q11 : (cmp3 (tI (W a)) (tI (W b)) == cmp3 (tI (W a)) (tI (W b))) = true) (q12 : (cmp3 (tI (W a)) 0 == cmp3 (tI (W a)) 0) = true) : GivesD P 3 [.v (W a), .v (W b), .v (.int .i64 m), .v (.slice none 0 0)] (.bool true) := by
  have _u := hm
  refine givesD_of_run (E := E1) (lv := 1) (ds := (.lit :: (.b false :: (.b false :: (.b false :: (.b false :: (.b false :: (.b false :: (.b false :: (.b false :: (.lit :: (.lit :: (.b true :: (.b true :: (.b true :: (.b true :: (.b true :: []))))))))))))))))) (v := .bool true) (ps := [P2 [W a, W b], P2 [W a, W b], P2 [W a, W b], P2 [W a, W b], (!(weq (tI (W a) + tI (W b)) (tI (W a) + tI (W b)))) = false, ((!inRB (tI (W a) + tI (W b))) != (!inRB (tI (W a) + tI (W b)))) = false, (!(weq (tI (W a) - tI (W b)) (tI (W a) - tI (W b)))) = false, ((!inRB (tI (W a) - tI (W b))) != (!inRB (tI (W a) - tI (W b)))) = false, P2 [W a, W b], P2 [W a, W b], P1 [W a], P1 [W a], (!(weq (tI (W a) * tI (W b)) (tI (W a) * tI (W b)))) = false, ((!inRB (tI (W a) * tI (W b))) != (!inRB (tI (W a) * tI (W b)))) = false, (!(weq (-tI (W a)) (-tI (W a)))) = false, ((!inRB (-tI (W a))) != (!inRB (-tI (W a)))) = false, sumP [.v (.slice none 0 0)], sumP [.v (.slice none 0 0)], P1 [W a], P1 [W a], ((if i64B (tI (W a)) then tI (W a) else 0) == (if i64B (tI (W a)) then tI (W a) else 0)) = true, ((i64B (tI (W a))) == (i64B (tI (W a)))) = true, ofP [.int .i64 m], ofP [.int .i64 m], (weq m m) = true, P2 [W a, W b], P2 [W a, W b], (cmp3 (tI (W a)) (tI (W b)) == cmp3 (tI (W a)) (tI (W b))) = true, P1 [W a], P1 [W a], (cmp3 (tI (W a)) 0 == cmp3 (tI (W a)) 0) = true, wkP []]) mo (by kernel_rfl) (ps_cons (P2_W _ _) (ps_cons (P2_W _ _) (ps_cons (P2_W _ _) (ps_cons (P2_W _ _) (ps_cons (neg_f q0) (ps_cons q1 (ps_cons (neg_f q2) (ps_cons q3 (ps_cons (P2_W _ _) (ps_cons (P2_W _ _) (ps_cons (P1_W _) (ps_cons (P1_W _) (ps_cons (neg_f q4) (ps_cons q5 (ps_cons (neg_f q6) (ps_cons q7 (ps_cons rfl (ps_cons rfl (ps_cons (P1_W _) (ps_cons (P1_W _) (ps_cons q8 (ps_cons q9 (ps_cons hm (ps_cons hm (ps_cons q10 (ps_cons (P2_W _ _) (ps_cons (P2_W _ _) (ps_cons q11 (ps_cons (P1_W _) (ps_cons (P1_W _) (ps_cons q12 (ps_cons trivial ps_nil)))))))))))))))))))))))))))))))) ?_
  rfl
theorem WideTells_nil (a b m : Int) (hm : I64 m) : GivesD P 3 [.v (W a), .v (W b), .v (.int .i64 m), .v (.slice none 0 0)] (.bool true) := by
  have q0 : (weq (tI (W a) + tI (W b)) (tI (W a) + tI (W b))) = true := (weq_same _)
  have q1 : ((!inRB (tI (W a) + tI (W b))) != (!inRB (tI (W a) + tI (W b)))) = false := (by simp)
  have q2 : (weq (tI (W a) - tI (W b)) (tI (W a) - tI (W b))) = true := (weq_same _)
  have q3 : ((!inRB (tI (W a) - tI (W b))) != (!inRB (tI (W a) - tI (W b)))) = false := (by simp)
  have q4 : (weq (tI (W a) * tI (W b)) (tI (W a) * tI (W b))) = true := (weq_same _)
  have q5 : ((!inRB (tI (W a) * tI (W b))) != (!inRB (tI (W a) * tI (W b)))) = false := (by simp)
  have q6 : (weq (-tI (W a)) (-tI (W a))) = true := (weq_same _)
  have q7 : ((!inRB (-tI (W a))) != (!inRB (-tI (W a)))) = false := (by simp)
  have q8 : ((if i64B (tI (W a)) then tI (W a) else 0) == (if i64B (tI (W a)) then tI (W a) else 0)) = true := (by simp)
  have q9 : ((i64B (tI (W a))) == (i64B (tI (W a)))) = true := (by simp)
  have q10 : (weq m m) = true := (weq_same _)
  have q11 : (cmp3 (tI (W a)) (tI (W b)) == cmp3 (tI (W a)) (tI (W b))) = true := (by simp)
  have q12 : (cmp3 (tI (W a)) 0 == cmp3 (tI (W a)) 0) = true := (by simp)
  exact wn0_leaf a b m hm q0 q1 q2 q3 q4 q5 q6 q7 q8 q9 q10 q11 q12
end Go.Tw
