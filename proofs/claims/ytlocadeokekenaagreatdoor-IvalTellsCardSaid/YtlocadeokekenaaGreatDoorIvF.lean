/-
  Laws of intervals: wakes, in, held. Printed by ivF.py.
-/
import Derived.Test.YtlocadeokekenaaGreatDoorIvb
import Derived.Test.YtlocadeokekenaaGreatDoorRfc
set_option maxRecDepth 100000
namespace Go.Iv
open Go Go.RowKit Go.Sx Go.Nm Go.Wd Go.Qt Go.Proofs
noncomputable def EV : Env P := ⟨⟨ivalC, ivalD⟩, [], 10, []⟩
def wakesP : List Value → Prop
  | [] => True
  | _ => False
def wakesV : List Value → Value := fun _ => .bool true
theorem wakes_run : runF P EV 1 5 [] [] = some (.bool true, [nP2 [.int .i64 2147483648, .int .i64 (-1073741824)], nP1 [.int .i64 3], iP2 [I (makeI 2147483648 (-1073741824)), I (ofI 3)], nP1 [.int .i64 1], partP [I (pointI 1), .int .i64 1, .int .i64 2], nP1 [.int .i64 1152921504606846976], nP1 [.int .i64 1], iP2 [I (pointI 1152921504606846976), I (pointI 1)], fineP [.v (.slice none 0 0)], nP1 [.int .i64 1], nP1 [.int .i64 4], fineP [ivs [ofI 1, ofI 4]], nP2 [.int .i64 1073741824, .int .i64 4294967296], nP1 [.int .i64 1], nP1 [.int .i64 2], iP2 [I (ofI 1), I (ofI 2)], nP1 [.int .i64 6], iP2 [I (mulI (makeI 2147483648 (-1073741824)) (ofI 3)), I (ofI 6)], nP1 [.int .i64 7], iP2 [I (mulI (makeI 2147483648 (-1073741824)) (ofI 3)), I (ofI 7)], iP1 [I (partI (pointI 1) 1 2)], iP1 [I (addI (pointI 1152921504606846976) (pointI 1))], nP1 [.int .i64 5], nP1 [.int .i64 7], iP2 [I (ofI 5), I (ofI 7)], nP1 [.int .i64 2], iP1 [I (ofI 2)], fineP [.v (.slice none 0 0)], fineP [ivs [addI (pointI 1152921504606846976) (pointI 1)]]]) := by kernel_rfl
theorem wakes_gives (args : List Value) (h : wakesP args) : Gives P 5 args.toArray (wakesV args) := by
  unfold wakesP at h
  split at h
  · exact gives_of_run mo wakes_run (ps_cons (by unfold nP2 I64; omega) (ps_cons (by unfold nP1 I64; omega) (ps_cons ⟨⟨_, rfl⟩, _, rfl⟩ (ps_cons (by unfold nP1 I64; omega) (ps_cons ⟨⟨_, rfl⟩, by unfold I64; omega, by unfold I64; omega⟩ (ps_cons (by unfold nP1 I64; omega) (ps_cons (by unfold nP1 I64; omega) (ps_cons ⟨⟨_, rfl⟩, _, rfl⟩ (ps_cons rfl (ps_cons (by unfold nP1 I64; omega) (ps_cons (by unfold nP1 I64; omega) (ps_cons (ivs_ok (by simp)) (ps_cons (by unfold nP2 I64; omega) (ps_cons (by unfold nP1 I64; omega) (ps_cons (by unfold nP1 I64; omega) (ps_cons ⟨⟨_, rfl⟩, _, rfl⟩ (ps_cons (by unfold nP1 I64; omega) (ps_cons ⟨⟨_, rfl⟩, _, rfl⟩ (ps_cons (by unfold nP1 I64; omega) (ps_cons ⟨⟨_, rfl⟩, _, rfl⟩ (ps_cons ⟨_, rfl⟩ (ps_cons ⟨_, rfl⟩ (ps_cons (by unfold nP1 I64; omega) (ps_cons (by unfold nP1 I64; omega) (ps_cons ⟨⟨_, rfl⟩, _, rfl⟩ (ps_cons (by unfold nP1 I64; omega) (ps_cons ⟨_, rfl⟩ (ps_cons rfl (ps_cons (ivs_ok (by simp)) ps_nil))))))))))))))))))))))))))))) rfl
  · exact h.elim
noncomputable def cWakes : Ctr P := ⟨5, wakesP, wakesV, wakes_gives⟩
def inV (a : Iv) (n : Int) : Int := a.lo + n % (a.hi - a.lo + 1)
theorem in_in {a : Iv} (n : Int) (h : fine a = true) : a.lo ≤ inV a n ∧ inV a n ≤ a.hi := by
  obtain ⟨_, h1, h2, h3⟩ := fine_iff.1 h
  have r1 := Int.emod_nonneg n (show a.hi - a.lo + 1 ≠ 0 by omega)
  have r2 := Int.emod_lt_of_pos n (show 0 < a.hi - a.lo + 1 by omega)
  unfold inV
  omega
end Go.Iv
