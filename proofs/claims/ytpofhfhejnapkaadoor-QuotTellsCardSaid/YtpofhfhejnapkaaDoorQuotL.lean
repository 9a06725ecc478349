/-
  The laws of chapter 03 (quot): floors, nearest ones, turns, ints. Printed by lawq1.py.
-/
import Derived.Test.YtpofhfhejnapkaaDoorQtb
set_option maxRecDepth 100000
namespace Go.Qt
open Go Go.RowKit Go.Sx Go.Nm Go.Wd Go.Proofs
theorem of_run (n : Int) : runF P ⟨Rd.refC, [], 10, []⟩ 1 49 [.int .i64 n] [] = some (W n, [ofP [.int .i64 n]]) := by kernel_rfl
theorem of_gives' (args : List Value) (h : ofP args) : Gives P 49 args.toArray (ofV args) := by
  have h0 := h
  unfold ofP at h
  split at h
  · exact gives_of_run mo (of_run _) (ps_cons h0 ps_nil) rfl
  · exact h.elim
noncomputable def lof : Ctr P := ⟨49, ofP, ofV, of_gives'⟩
noncomputable def LC : List (Ctr P) := lof :: (Rd.refC ++ quotC)
noncomputable def EL0 : Env P := ⟨⟨LC, []⟩, [], 10, []⟩
theorem wakes_run : runF P EL0 1 18 [] [] =
  some (.bool true, [ofP [.int .i64 (-7)], ofP [.int .i64 2], P2 [W (-7), W 2], ofP [.int .i64 (-7)], ofP [.int .i64 2], P2 [W (-7), W 2], ofP [.int .i64 (-7)], ofP [.int .i64 2], P2 [W (-7), W 2], ofP [.int .i64 7], ofP [.int .i64 (-2)], P2 [W 7, W (-2)], ofP [.int .i64 1], ofP [.int .i64 0], P2 [W 1, W 0], ofP [.int .i64 3], shP [W 3, .int .i64 100], shPr [W (lv (tI (W 3)) 100), .int .i64 99], intsP [.int .i64 1099511627776, .int .i64 1099511627776, .int .i64 (-3377699720527872)], ofP [.int .i64 (-4)], ofP [.int .i64 (-4)], ofP [.int .i64 (-3)], ofP [.int .i64 (-1)], ofP [.int .i64 6]]) := by kernel_rfl
theorem wakes_gives (args : List Value) (h : noP args) : Gives P 18 args.toArray (.bool true) := by
  unfold noP at h
  split at h
  · exact gives_of_run mo wakes_run (ps_cons ⟨by decide, by decide⟩ (ps_cons ⟨by decide, by decide⟩ (ps_cons (P2_W _ _) (ps_cons ⟨by decide, by decide⟩ (ps_cons ⟨by decide, by decide⟩ (ps_cons (P2_W _ _) (ps_cons ⟨by decide, by decide⟩ (ps_cons ⟨by decide, by decide⟩ (ps_cons (P2_W _ _) (ps_cons ⟨by decide, by decide⟩ (ps_cons ⟨by decide, by decide⟩ (ps_cons (P2_W _ _) (ps_cons ⟨by decide, by decide⟩ (ps_cons ⟨by decide, by decide⟩ (ps_cons (P2_W _ _) (ps_cons ⟨by decide, by decide⟩ (ps_cons ⟨IsW_W _, ⟨by decide, by decide⟩⟩ (ps_cons ⟨IsW_W _, ⟨by decide, by decide⟩, by decide +kernel⟩ (ps_cons ⟨⟨by decide, by decide⟩, ⟨by decide, by decide⟩, ⟨by decide, by decide⟩⟩ (ps_cons ⟨by decide, by decide⟩ (ps_cons ⟨by decide, by decide⟩ (ps_cons ⟨by decide, by decide⟩ (ps_cons ⟨by decide, by decide⟩ (ps_cons ⟨by decide, by decide⟩ ps_nil)))))))))))))))))))))))) rfl
  · exact h.elim
noncomputable def wakes : Ctr P := ⟨18, noP, fun _ => .bool true, wakes_gives⟩
end Go.Qt
