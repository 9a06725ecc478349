/-
 The law KeplerHolds comes to true. Printed by keE.py.
-/
import Derived.Test.YtekplphjbngabaaGreatDoorKeE
import Derived.Test.YtekplphjbngabaaGreatDoorRf7
set_option maxRecDepth 100000
namespace Go.Ke
open Go Go.RowKit Go.Sx Go.Nm Go.Wd Go.Qt Go.Iv Go.An Go.Wv Go.Nv Go.Proofs
def s6B (a : Iv) : Bool := fineL [a] && (decide (a.lo > 0) || (decide (a.hi < 0) || (a.lo == 0 && a.hi == 0)))
theorem s60_run (a : Iv) : runF P E0 1 162 [I a] (.lit :: (.b false :: (.b true :: []))) =
 some (.tuple #[.int .i64 1, .bool true], [fineP [ivs [a]], (!(fineL [a])) = false, (decide (a.lo > 0)) = true]) := by kernel_rfl
theorem s60_leaf (a : Iv)  (q0 : (fineL [a]) = true) (q1 : (decide (a.lo > 0)) = true) : Gives P 162 #[I a] (.tuple #[.int .i64 (signN a), .bool (s6B a)]) := by
 have R := s60_run a
 refine gives_of_run mo R (ps_cons (ivs_ok (by simp)) (ps_cons (neg_f q0) (ps_cons q1 ps_nil))) ?_
 unfold signN s6B
 rw [q0, q1]
 rw [cond_true, if_pos (of_decide_eq_true q1)]
 rfl
theorem s61_run (a : Iv) : runF P E0 1 162 [I a] (.lit :: (.b true :: [])) =
 some (.tuple #[.int .i64 0, .bool false], [fineP [ivs [a]], (!(fineL [a])) = true]) := by kernel_rfl
theorem s61_leaf (a : Iv)  (q0 : (fineL [a]) = false) : Gives P 162 #[I a] (.tuple #[.int .i64 (signN a), .bool (s6B a)]) := by
 have R := s61_run a
 refine gives_of_run mo R (ps_cons (ivs_ok (by simp)) (ps_cons (neg_t q0) ps_nil)) ?_
 unfold signN s6B
 rw [q0]
 rfl
theorem s62_run (a : Iv) : runF P E0 1 162 [I a] (.lit :: (.b false :: (.b false :: (.b true :: [])))) =
 some (.tuple #[.int .i64 (-1), .bool true], [fineP [ivs [a]], (!(fineL [a])) = false, (decide (a.lo > 0)) = false, (decide (a.hi < 0)) = true]) := by kernel_rfl
theorem s62_leaf (a : Iv)  (q0 : (fineL [a]) = true) (q1 : (decide (a.lo > 0)) = false) (q2 : (decide (a.hi < 0)) = true) : Gives P 162 #[I a] (.tuple #[.int .i64 (signN a), .bool (s6B a)]) := by
 have R := s62_run a
 refine gives_of_run mo R (ps_cons (ivs_ok (by simp)) (ps_cons (neg_f q0) (ps_cons q1 (ps_cons q2 ps_nil)))) ?_
 unfold signN s6B
 rw [q0, q1, q2]
 rw [cond_true, if_neg (of_decide_eq_false q1)]
 rw [if_pos (of_decide_eq_true q2)]
 rfl
theorem s63_run (a : Iv) : runF P E0 1 162 [I a] (.lit :: (.b false :: (.b false :: (.b false :: (.b true :: []))))) =
 some (.tuple #[.int .i64 0, .bool (a.hi == 0)], [fineP [ivs [a]], (!(fineL [a])) = false, (decide (a.lo > 0)) = false, (decide (a.hi < 0)) = false, (a.lo == 0) = true]) := by kernel_rfl
theorem s63_leaf (a : Iv)  (q0 : (fineL [a]) = true) (q1 : (decide (a.lo > 0)) = false) (q2 : (decide (a.hi < 0)) = false) (q3 : (a.lo == 0) = true) : Gives P 162 #[I a] (.tuple #[.int .i64 (signN a), .bool (s6B a)]) := by
 have R := s63_run a
 refine gives_of_run mo R (ps_cons (ivs_ok (by simp)) (ps_cons (neg_f q0) (ps_cons q1 (ps_cons q2 (ps_cons q3 ps_nil))))) ?_
 unfold signN s6B
 rw [q0, q1, q2]
 rw [cond_true, if_neg (of_decide_eq_false q1)]
 rw [if_neg (of_decide_eq_false q2)]
 rw [q3]
 rfl
theorem s64_run (a : Iv) : runF P E0 1 162 [I a] (.lit :: (.b false :: (.b false :: (.b false :: (.b false :: []))))) =
 some (.tuple #[.int .i64 0, .bool false], [fineP [ivs [a]], (!(fineL [a])) = false, (decide (a.lo > 0)) = false, (decide (a.hi < 0)) = false, (a.lo == 0) = false]) := by kernel_rfl
theorem s64_leaf (a : Iv)  (q0 : (fineL [a]) = true) (q1 : (decide (a.lo > 0)) = false) (q2 : (decide (a.hi < 0)) = false) (q3 : (a.lo == 0) = false) : Gives P 162 #[I a] (.tuple #[.int .i64 (signN a), .bool (s6B a)]) := by
 have R := s64_run a
 refine gives_of_run mo R (ps_cons (ivs_ok (by simp)) (ps_cons (neg_f q0) (ps_cons q1 (ps_cons q2 (ps_cons q3 ps_nil))))) ?_
 unfold signN s6B
 rw [q0, q1, q2]
 rw [cond_true, if_neg (of_decide_eq_false q1)]
 rw [if_neg (of_decide_eq_false q2)]
 rw [q3]
 rfl
theorem s6_gives (args : List Value) (h : iP1 args) : Gives P 162 args.toArray ((one1 fun a => .tuple #[.int .i64 (signN a), .bool (s6B a)]) args) := by
 unfold iP1 at h
 split at h
 · obtain ⟨a, rfl⟩ := h
   show Gives P _ #[I a] (.tuple #[.int .i64 (signN a), .bool (s6B a)])
   rcases Bool.eq_false_or_eq_true (fineL [a]) with q0 | q0
   · rcases Bool.eq_false_or_eq_true (decide (a.lo > 0)) with q1 | q1
     · exact s60_leaf a  q0 q1
     · rcases Bool.eq_false_or_eq_true (decide (a.hi < 0)) with q2 | q2
       · exact s62_leaf a  q0 q1 q2
       · rcases Bool.eq_false_or_eq_true (a.lo == 0) with q3 | q3
         · exact s63_leaf a  q0 q1 q2 q3
         · exact s64_leaf a  q0 q1 q2 q3
   · exact s61_leaf a  q0
 · exact h.elim
noncomputable def cSign6 : Ctr P := ⟨162, iP1, one1 fun a => .tuple #[.int .i64 (signN a), .bool (s6B a)], s6_gives⟩
end Go.Ke
