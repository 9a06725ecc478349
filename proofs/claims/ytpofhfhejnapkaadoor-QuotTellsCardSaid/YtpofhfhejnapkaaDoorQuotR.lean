/-
  Right, whole. Printed by tell3.py.
-/
import Derived.Test.YtpofhfhejnapkaaDoorQtb
set_option maxRecDepth 100000
namespace Go.Qt
open Go Go.RowKit Go.Sx Go.Nm Go.Wd Go.Proofs
theorem Right2_run (n : Int) : runF P Qs 5 14 [W (-57896044618658097711785492504343953926634992332820282019728792003956564819968), .int .i64 n] (.b true :: (.b false :: (.b false :: []))) =
  some (.tuple #[W 0, .int .i64 20], [(decide (n ≥ 0)) = true, (!(decide (n ≤ 254))) = false, ofP [.int .i64 1], shiftP [W 1, .int .i64 n], (!(!(weq (tI (W 1) * 2 ^ n.toNat) 0))) = false]) := by kernel_rfl
theorem Right2_leaf (n : Int) (h1 : 0 ≤ n) (h2 : n ≤ 254) : Gives P 14 #[W (-57896044618658097711785492504343953926634992332820282019728792003956564819968), .int .i64 n] (.tuple #[W 0, .int .i64 20]) := by
  have e0 : tI (W 1) = 1 := tI_in (by unfold InR; decide)
  have R := Right2_run n
  rw [e0] at R
  refine gives_of_run mo R (ps_cons (decide_eq_true (by omega)) (ps_cons (by simp; omega) (ps_cons ⟨by decide, by decide⟩ (ps_cons (shiftP_1 h1 h2) (ps_cons (nnw (p2_R h1 h2) (by unfold InR; decide) (by rw [Int.one_mul]; have := (p2_in h1 h2).2; omega)) ps_nil))))) ?_
  rfl
theorem Right_whole {a n : Int} (i1 : InR a) : Gives P 14 #[W a, .int .i64 n] (.tuple #[W (rv a n), .int .i64 (re a n)]) := by
  by_cases hr : re a n = 20
  · have h1 : ¬ (n < 0 ∨ 254 < n) := by intro h; unfold re at hr; rw [if_pos h] at hr; exact absurd hr (by decide)
    have ha : a = -HH := by
      unfold re at hr
      rw [if_neg h1] at hr
      by_cases ha : a = -HH
      · exact ha
      · rw [if_neg ha] at hr; exact absurd hr (by decide)
    subst ha
    unfold rv
    rw [hr]
    exact Right2_leaf n (by omega) (by omega)
  · exact Right_all i1 hr
theorem RightW_gives (args : List Value) (h : shP args) : Gives P 14 args.toArray (rightV args) := by
  unfold shP at h
  split at h
  · rename_i x n
    obtain ⟨ex, rx⟩ := isW_in h.1
    have key := Right_whole (n := n) rx
    rw [← ex] at key
    exact key
  · exact h.elim
noncomputable def cRightW : Ctr P := ⟨14, shP, rightV, RightW_gives⟩
noncomputable def quotCW : List (Ctr P) := [cFloor, cRest, cCeil, cNear, cLeft, cRightW, cInts]
end Go.Qt
