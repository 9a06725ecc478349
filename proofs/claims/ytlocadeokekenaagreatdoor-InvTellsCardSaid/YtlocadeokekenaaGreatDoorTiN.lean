/-
  The law InvTells comes to true. Printed by tell6.py.
-/
import Derived.Test.YtlocadeokekenaaGreatDoorIna
import Derived.Test.YtlocadeokekenaaGreatDoorRf6b
set_option maxRecDepth 100000
namespace Go.Ti
open Go Go.RowKit Go.Sx Go.Nm Go.Wd Go.Qt Go.Iv Go.Nv Go.Proofs
noncomputable def E6w : Env P := ⟨⟨invC ++ R5.rf5C, [rFine]⟩, [], 20, []⟩
theorem w6_run : runF P E6w 1 44 [] [] =
  some (.bool true, [nP1 [.int .i64 4], iP1 [I (ofI 4)], iP1 [I (ofI 4)], nP1 [.int .i64 1], nP1 [.int .i64 3], iP2 [I (ofI 1), I (ofI 3)], nP1 [.int .i64 (-2)], iP1 [I (ofI (-2))], iP1 [I (⟨-1, 1, false⟩)], iP1 [I (⟨0, 0, false⟩)], nP1 [.int .i64 2], iP1 [I (⟨-2147483648, 1073741824, false⟩)], iP1 [I (⟨-1, 1, false⟩)], iP1 [I (⟨-1, 1, false⟩)], iP1 [I (⟨0, 0, false⟩)]]) := by kernel_rfl
def w6P : List Value → Prop
  | [] => True
  | _ => False
theorem w6_gives (args : List Value) (h : w6P args) : Gives P 44 args.toArray (.bool true) := by
  unfold w6P at h
  split at h
  · exact gives_of_run mo w6_run (ps_cons (by unfold nP1 I64; omega) (ps_cons ⟨_, rfl⟩ (ps_cons ⟨_, rfl⟩ (ps_cons (by unfold nP1 I64; omega) (ps_cons (by unfold nP1 I64; omega) (ps_cons ⟨⟨_, rfl⟩, _, rfl⟩ (ps_cons (by unfold nP1 I64; omega) (ps_cons ⟨_, rfl⟩ (ps_cons ⟨_, rfl⟩ (ps_cons ⟨_, rfl⟩ (ps_cons (by unfold nP1 I64; omega) (ps_cons ⟨_, rfl⟩ (ps_cons ⟨_, rfl⟩ (ps_cons ⟨_, rfl⟩ (ps_cons ⟨_, rfl⟩ ps_nil))))))))))))))) rfl
  · exact h.elim
noncomputable def c_w6 : Ctr P := ⟨44, w6P, fun _ => .bool true, w6_gives⟩
noncomputable def E6 : Env P := ⟨⟨c_w6 :: (invC ++ R6.ref6D), []⟩, [], 20, []⟩
theorem it0_leaf (a b : Iv)  (q0 : (((quotI a b).lo == (quotI a b).lo) && (((quotI a b).hi == (quotI a b).hi) && (((quotI a b).bad) == ((quotI a b).bad)))) = true) (q1 : (((inverseI a).lo == (inverseI a).lo) && (((inverseI a).hi == (inverseI a).hi) && (((inverseI a).bad) == ((inverseI a).bad)))) = true) (q2 : (((squareI a).lo == (squareI a).lo) && (((squareI a).hi == (squareI a).hi) && (((squareI a).bad) == ((squareI a).bad)))) = true) (q3 : (((rootI a).lo == (rootI a).lo) && (((rootI a).hi == (rootI a).hi) && (((rootI a).bad) == ((rootI a).bad)))) = true) (q4 : (((cubeI a).lo == (cubeI a).lo) && (((cubeI a).hi == (cubeI a).hi) && (((cubeI a).bad) == ((cubeI a).bad)))) = true) (q5 : (signN a == signN a) = true) (q6 : ((signB a) == (signB a)) = true) : Gives P 4 #[I a, I b] (.bool true) := by
  refine gives_of_run (E := E6) (lv := 1) (ds := (.b true :: (.b true :: (.b true :: (.b true :: (.b true :: (.b true :: (.b true :: [])))))))) (v := .bool true) (ps := [iP1 [I a], iP1 [I a], iP2 [I a, I b], iP2 [I a, I b], (((quotI a b).lo == (quotI a b).lo) && (((quotI a b).hi == (quotI a b).hi) && (((quotI a b).bad) == ((quotI a b).bad)))) = true, iP1 [I a], iP1 [I a], (((inverseI a).lo == (inverseI a).lo) && (((inverseI a).hi == (inverseI a).hi) && (((inverseI a).bad) == ((inverseI a).bad)))) = true, iP1 [I a], iP1 [I a], (((squareI a).lo == (squareI a).lo) && (((squareI a).hi == (squareI a).hi) && (((squareI a).bad) == ((squareI a).bad)))) = true, iP1 [I a], iP1 [I a], (((rootI a).lo == (rootI a).lo) && (((rootI a).hi == (rootI a).hi) && (((rootI a).bad) == ((rootI a).bad)))) = true, iP1 [I a], iP1 [I a], (((cubeI a).lo == (cubeI a).lo) && (((cubeI a).hi == (cubeI a).hi) && (((cubeI a).bad) == ((cubeI a).bad)))) = true, (signN a == signN a) = true, ((signB a) == (signB a)) = true, w6P []]) mo (by kernel_rfl) (ps_cons ⟨_, rfl⟩ (ps_cons ⟨_, rfl⟩ (ps_cons ⟨⟨_, rfl⟩, _, rfl⟩ (ps_cons ⟨⟨_, rfl⟩, _, rfl⟩ (ps_cons q0 (ps_cons ⟨_, rfl⟩ (ps_cons ⟨_, rfl⟩ (ps_cons q1 (ps_cons ⟨_, rfl⟩ (ps_cons ⟨_, rfl⟩ (ps_cons q2 (ps_cons ⟨_, rfl⟩ (ps_cons ⟨_, rfl⟩ (ps_cons q3 (ps_cons ⟨_, rfl⟩ (ps_cons ⟨_, rfl⟩ (ps_cons q4 (ps_cons q5 (ps_cons q6 (ps_cons trivial ps_nil)))))))))))))))))))) ?_
  rfl
theorem InvTells_all (a b : Iv) : Gives P 4 #[I a, I b] (.bool true) := by
  have q0 : (((quotI a b).lo == (quotI a b).lo) && (((quotI a b).hi == (quotI a b).hi) && (((quotI a b).bad) == ((quotI a b).bad)))) = true := (by simp)
  have q1 : (((inverseI a).lo == (inverseI a).lo) && (((inverseI a).hi == (inverseI a).hi) && (((inverseI a).bad) == ((inverseI a).bad)))) = true := (by simp)
  have q2 : (((squareI a).lo == (squareI a).lo) && (((squareI a).hi == (squareI a).hi) && (((squareI a).bad) == ((squareI a).bad)))) = true := (by simp)
  have q3 : (((rootI a).lo == (rootI a).lo) && (((rootI a).hi == (rootI a).hi) && (((rootI a).bad) == ((rootI a).bad)))) = true := (by simp)
  have q4 : (((cubeI a).lo == (cubeI a).lo) && (((cubeI a).hi == (cubeI a).hi) && (((cubeI a).bad) == ((cubeI a).bad)))) = true := (by simp)
  have q5 : (signN a == signN a) = true := (by simp)
  have q6 : ((signB a) == (signB a)) = true := (by simp)
  exact it0_leaf a b  q0 q1 q2 q3 q4 q5 q6
end Go.Ti
