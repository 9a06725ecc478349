/-
  Contract of stumpff.Term; the law StumpffTerms comes to true. Printed by stI.py.
-/
import Derived.Test.YtmlmfjlecgcndaaGreatDoorStE
set_option maxRecDepth 100000
namespace Go.St
open Go Go.RowKit Go.Sx Go.Nm Go.Wd Go.Qt Go.Iv Go.An Go.Wv Go.Nv Go.Rt Go.Proofs

def te9P : List Value → Prop
  | [.int .i64 k, .int .i64 p, .int .i64 n] => 0 ≤ k ∧ k ≤ 3 ∧ -17179869184 ≤ p ∧ p ≤ 17179869184 ∧ 0 ≤ n ∧ n ≤ 15
  | _ => False
def T9 (k p n : Int) : Iv := bif decide (n ≤ 14) then tk k.toNat p n.toNat else bd
def te9V : List Value → Value
  | [.int _ k, .int _ p, .int _ n] => I (T9 k p n)
  | _ => undef
noncomputable def I0 : Env P := ⟨⟨ivalC, ivalD⟩, [], 20, []⟩
theorem t9_0_0_run (p : Int) : runF P I0 3 30 [.int .i64 0, .int .i64 p, .int .i64 0] (.lit :: (.lit :: (.b true :: (.b true :: [])))) =
  some (I (ofI 1),
    [(decide (p ≥ -17179869184)) = true,
     (decide (p ≤ 17179869184)) = true,
     nP1 [.int .i64 1]]) := by kernel_rfl
theorem t9_0_0_leaf (p : Int) (h1 : -17179869184 ≤ p) (h2 : p ≤ 17179869184) : Gives P 30 #[.int .i64 0, .int .i64 p, .int .i64 0] (I (T9 0 p 0)) := by
  have hp : I64 p := by unfold I64; omega
  have k1 : (decide (p ≥ -17179869184)) = true := decide_eq_true (by omega)
  have k2 : (decide (p ≤ 17179869184)) = true := decide_eq_true (by omega)
  exact gives_of_run mo (t9_0_0_run p) (ps_cons k1 (ps_cons k2 (ps_cons (by unfold nP1 I64; omega) ps_nil))) rfl
theorem t9_0_1_run (p : Int) : runF P I0 3 30 [.int .i64 0, .int .i64 p, .int .i64 1] (.lit :: (.lit :: (.b true :: (.b true :: [])))) =
  some (I (tk 0 p 1),
    [(decide (p ≥ -17179869184)) = true,
     (decide (p ≤ 17179869184)) = true,
     nP1 [.int .i64 1],
     nP1 [.int .i64 p],
     iP2 [I (ofI 1), I (pointI p)],
     partP [I (mulI (tk 0 p 0) (pointI p)), .int .i64 (-1), .int .i64 2]]) := by kernel_rfl
theorem t9_0_1_leaf (p : Int) (h1 : -17179869184 ≤ p) (h2 : p ≤ 17179869184) : Gives P 30 #[.int .i64 0, .int .i64 p, .int .i64 1] (I (T9 0 p 1)) := by
  have hp : I64 p := by unfold I64; omega
  have k1 : (decide (p ≥ -17179869184)) = true := decide_eq_true (by omega)
  have k2 : (decide (p ≤ 17179869184)) = true := decide_eq_true (by omega)
  exact gives_of_run mo (t9_0_1_run p) (ps_cons k1 (ps_cons k2 (ps_cons (by unfold nP1 I64; omega) (ps_cons hp (ps_cons ⟨⟨_, rfl⟩, _, rfl⟩ (ps_cons ⟨⟨_, rfl⟩, by unfold I64; omega, by unfold I64; omega⟩ ps_nil)))))) rfl
theorem t9_0_2_run (p : Int) : runF P I0 3 30 [.int .i64 0, .int .i64 p, .int .i64 2] (.lit :: (.lit :: (.b true :: (.b true :: [])))) =
  some (I (tk 0 p 2),
    [(decide (p ≥ -17179869184)) = true,
     (decide (p ≤ 17179869184)) = true,
     nP1 [.int .i64 1],
     nP1 [.int .i64 p],
     iP2 [I (ofI 1), I (pointI p)],
     partP [I (mulI (tk 0 p 0) (pointI p)), .int .i64 (-1), .int .i64 2],
     nP1 [.int .i64 p],
     iP2 [I (tk 0 p 1), I (pointI p)],
     partP [I (mulI (tk 0 p 1) (pointI p)), .int .i64 (-1), .int .i64 12]]) := by kernel_rfl
theorem t9_0_2_leaf (p : Int) (h1 : -17179869184 ≤ p) (h2 : p ≤ 17179869184) : Gives P 30 #[.int .i64 0, .int .i64 p, .int .i64 2] (I (T9 0 p 2)) := by
  have hp : I64 p := by unfold I64; omega
  have k1 : (decide (p ≥ -17179869184)) = true := decide_eq_true (by omega)
  have k2 : (decide (p ≤ 17179869184)) = true := decide_eq_true (by omega)
  exact gives_of_run mo (t9_0_2_run p) (ps_cons k1 (ps_cons k2 (ps_cons (by unfold nP1 I64; omega) (ps_cons hp (ps_cons ⟨⟨_, rfl⟩, _, rfl⟩ (ps_cons ⟨⟨_, rfl⟩, by unfold I64; omega, by unfold I64; omega⟩ (ps_cons hp (ps_cons ⟨⟨_, rfl⟩, _, rfl⟩ (ps_cons ⟨⟨_, rfl⟩, by unfold I64; omega, by unfold I64; omega⟩ ps_nil))))))))) rfl
theorem t9_0_3_run (p : Int) : runF P I0 3 30 [.int .i64 0, .int .i64 p, .int .i64 3] (.lit :: (.lit :: (.b true :: (.b true :: [])))) =
  some (I (tk 0 p 3),
    [(decide (p ≥ -17179869184)) = true,
     (decide (p ≤ 17179869184)) = true,
     nP1 [.int .i64 1],
     nP1 [.int .i64 p],
     iP2 [I (ofI 1), I (pointI p)],
     partP [I (mulI (tk 0 p 0) (pointI p)), .int .i64 (-1), .int .i64 2],
     nP1 [.int .i64 p],
     iP2 [I (tk 0 p 1), I (pointI p)],
     partP [I (mulI (tk 0 p 1) (pointI p)), .int .i64 (-1), .int .i64 12],
     nP1 [.int .i64 p],
     iP2 [I (tk 0 p 2), I (pointI p)],
     partP [I (mulI (tk 0 p 2) (pointI p)), .int .i64 (-1), .int .i64 30]]) := by kernel_rfl
theorem t9_0_3_leaf (p : Int) (h1 : -17179869184 ≤ p) (h2 : p ≤ 17179869184) : Gives P 30 #[.int .i64 0, .int .i64 p, .int .i64 3] (I (T9 0 p 3)) := by
  have hp : I64 p := by unfold I64; omega
  have k1 : (decide (p ≥ -17179869184)) = true := decide_eq_true (by omega)
  have k2 : (decide (p ≤ 17179869184)) = true := decide_eq_true (by omega)
  exact gives_of_run mo (t9_0_3_run p) (ps_cons k1 (ps_cons k2 (ps_cons (by unfold nP1 I64; omega) (ps_cons hp (ps_cons ⟨⟨_, rfl⟩, _, rfl⟩ (ps_cons ⟨⟨_, rfl⟩, by unfold I64; omega, by unfold I64; omega⟩ (ps_cons hp (ps_cons ⟨⟨_, rfl⟩, _, rfl⟩ (ps_cons ⟨⟨_, rfl⟩, by unfold I64; omega, by unfold I64; omega⟩ (ps_cons hp (ps_cons ⟨⟨_, rfl⟩, _, rfl⟩ (ps_cons ⟨⟨_, rfl⟩, by unfold I64; omega, by unfold I64; omega⟩ ps_nil)))))))))))) rfl
theorem t9_0_4_run (p : Int) : runF P I0 3 30 [.int .i64 0, .int .i64 p, .int .i64 4] (.lit :: (.lit :: (.b true :: (.b true :: [])))) =
  some (I (tk 0 p 4),
    [(decide (p ≥ -17179869184)) = true,
     (decide (p ≤ 17179869184)) = true,
     nP1 [.int .i64 1],
     nP1 [.int .i64 p],
     iP2 [I (ofI 1), I (pointI p)],
     partP [I (mulI (tk 0 p 0) (pointI p)), .int .i64 (-1), .int .i64 2],
     nP1 [.int .i64 p],
     iP2 [I (tk 0 p 1), I (pointI p)],
     partP [I (mulI (tk 0 p 1) (pointI p)), .int .i64 (-1), .int .i64 12],
     nP1 [.int .i64 p],
     iP2 [I (tk 0 p 2), I (pointI p)],
     partP [I (mulI (tk 0 p 2) (pointI p)), .int .i64 (-1), .int .i64 30],
     nP1 [.int .i64 p],
     iP2 [I (tk 0 p 3), I (pointI p)],
     partP [I (mulI (tk 0 p 3) (pointI p)), .int .i64 (-1), .int .i64 56]]) := by kernel_rfl
theorem t9_0_4_leaf (p : Int) (h1 : -17179869184 ≤ p) (h2 : p ≤ 17179869184) : Gives P 30 #[.int .i64 0, .int .i64 p, .int .i64 4] (I (T9 0 p 4)) := by
  have hp : I64 p := by unfold I64; omega
  have k1 : (decide (p ≥ -17179869184)) = true := decide_eq_true (by omega)
  have k2 : (decide (p ≤ 17179869184)) = true := decide_eq_true (by omega)
  exact gives_of_run mo (t9_0_4_run p) (ps_cons k1 (ps_cons k2 (ps_cons (by unfold nP1 I64; omega) (ps_cons hp (ps_cons ⟨⟨_, rfl⟩, _, rfl⟩ (ps_cons ⟨⟨_, rfl⟩, by unfold I64; omega, by unfold I64; omega⟩ (ps_cons hp (ps_cons ⟨⟨_, rfl⟩, _, rfl⟩ (ps_cons ⟨⟨_, rfl⟩, by unfold I64; omega, by unfold I64; omega⟩ (ps_cons hp (ps_cons ⟨⟨_, rfl⟩, _, rfl⟩ (ps_cons ⟨⟨_, rfl⟩, by unfold I64; omega, by unfold I64; omega⟩ (ps_cons hp (ps_cons ⟨⟨_, rfl⟩, _, rfl⟩ (ps_cons ⟨⟨_, rfl⟩, by unfold I64; omega, by unfold I64; omega⟩ ps_nil))))))))))))))) rfl
theorem t9_0_5_run (p : Int) : runF P I0 3 30 [.int .i64 0, .int .i64 p, .int .i64 5] (.lit :: (.lit :: (.b true :: (.b true :: [])))) =
  some (I (tk 0 p 5),
    [(decide (p ≥ -17179869184)) = true,
     (decide (p ≤ 17179869184)) = true,
     nP1 [.int .i64 1],
     nP1 [.int .i64 p],
     iP2 [I (ofI 1), I (pointI p)],
     partP [I (mulI (tk 0 p 0) (pointI p)), .int .i64 (-1), .int .i64 2],
     nP1 [.int .i64 p],
     iP2 [I (tk 0 p 1), I (pointI p)],
     partP [I (mulI (tk 0 p 1) (pointI p)), .int .i64 (-1), .int .i64 12],
     nP1 [.int .i64 p],
     iP2 [I (tk 0 p 2), I (pointI p)],
     partP [I (mulI (tk 0 p 2) (pointI p)), .int .i64 (-1), .int .i64 30],
     nP1 [.int .i64 p],
     iP2 [I (tk 0 p 3), I (pointI p)],
     partP [I (mulI (tk 0 p 3) (pointI p)), .int .i64 (-1), .int .i64 56],
     nP1 [.int .i64 p],
     iP2 [I (tk 0 p 4), I (pointI p)],
     partP [I (mulI (tk 0 p 4) (pointI p)), .int .i64 (-1), .int .i64 90]]) := by kernel_rfl
theorem t9_0_5_leaf (p : Int) (h1 : -17179869184 ≤ p) (h2 : p ≤ 17179869184) : Gives P 30 #[.int .i64 0, .int .i64 p, .int .i64 5] (I (T9 0 p 5)) := by
  have hp : I64 p := by unfold I64; omega
  have k1 : (decide (p ≥ -17179869184)) = true := decide_eq_true (by omega)
  have k2 : (decide (p ≤ 17179869184)) = true := decide_eq_true (by omega)
  exact gives_of_run mo (t9_0_5_run p) (ps_cons k1 (ps_cons k2 (ps_cons (by unfold nP1 I64; omega) (ps_cons hp (ps_cons ⟨⟨_, rfl⟩, _, rfl⟩ (ps_cons ⟨⟨_, rfl⟩, by unfold I64; omega, by unfold I64; omega⟩ (ps_cons hp (ps_cons ⟨⟨_, rfl⟩, _, rfl⟩ (ps_cons ⟨⟨_, rfl⟩, by unfold I64; omega, by unfold I64; omega⟩ (ps_cons hp (ps_cons ⟨⟨_, rfl⟩, _, rfl⟩ (ps_cons ⟨⟨_, rfl⟩, by unfold I64; omega, by unfold I64; omega⟩ (ps_cons hp (ps_cons ⟨⟨_, rfl⟩, _, rfl⟩ (ps_cons ⟨⟨_, rfl⟩, by unfold I64; omega, by unfold I64; omega⟩ (ps_cons hp (ps_cons ⟨⟨_, rfl⟩, _, rfl⟩ (ps_cons ⟨⟨_, rfl⟩, by unfold I64; omega, by unfold I64; omega⟩ ps_nil)))))))))))))))))) rfl
theorem t9_0_6_run (p : Int) : runF P I0 3 30 [.int .i64 0, .int .i64 p, .int .i64 6] (.lit :: (.lit :: (.b true :: (.b true :: [])))) =
  some (I (tk 0 p 6),
    [(decide (p ≥ -17179869184)) = true,
     (decide (p ≤ 17179869184)) = true,
     nP1 [.int .i64 1],
     nP1 [.int .i64 p],
     iP2 [I (ofI 1), I (pointI p)],
     partP [I (mulI (tk 0 p 0) (pointI p)), .int .i64 (-1), .int .i64 2],
     nP1 [.int .i64 p],
     iP2 [I (tk 0 p 1), I (pointI p)],
     partP [I (mulI (tk 0 p 1) (pointI p)), .int .i64 (-1), .int .i64 12],
     nP1 [.int .i64 p],
     iP2 [I (tk 0 p 2), I (pointI p)],
     partP [I (mulI (tk 0 p 2) (pointI p)), .int .i64 (-1), .int .i64 30],
     nP1 [.int .i64 p],
     iP2 [I (tk 0 p 3), I (pointI p)],
     partP [I (mulI (tk 0 p 3) (pointI p)), .int .i64 (-1), .int .i64 56],
     nP1 [.int .i64 p],
     iP2 [I (tk 0 p 4), I (pointI p)],
     partP [I (mulI (tk 0 p 4) (pointI p)), .int .i64 (-1), .int .i64 90],
     nP1 [.int .i64 p],
     iP2 [I (tk 0 p 5), I (pointI p)],
     partP [I (mulI (tk 0 p 5) (pointI p)), .int .i64 (-1), .int .i64 132]]) := by kernel_rfl
theorem t9_0_6_leaf (p : Int) (h1 : -17179869184 ≤ p) (h2 : p ≤ 17179869184) : Gives P 30 #[.int .i64 0, .int .i64 p, .int .i64 6] (I (T9 0 p 6)) := by
  have hp : I64 p := by unfold I64; omega
  have k1 : (decide (p ≥ -17179869184)) = true := decide_eq_true (by omega)
  have k2 : (decide (p ≤ 17179869184)) = true := decide_eq_true (by omega)
  exact gives_of_run mo (t9_0_6_run p) (ps_cons k1 (ps_cons k2 (ps_cons (by unfold nP1 I64; omega) (ps_cons hp (ps_cons ⟨⟨_, rfl⟩, _, rfl⟩ (ps_cons ⟨⟨_, rfl⟩, by unfold I64; omega, by unfold I64; omega⟩ (ps_cons hp (ps_cons ⟨⟨_, rfl⟩, _, rfl⟩ (ps_cons ⟨⟨_, rfl⟩, by unfold I64; omega, by unfold I64; omega⟩ (ps_cons hp (ps_cons ⟨⟨_, rfl⟩, _, rfl⟩ (ps_cons ⟨⟨_, rfl⟩, by unfold I64; omega, by unfold I64; omega⟩ (ps_cons hp (ps_cons ⟨⟨_, rfl⟩, _, rfl⟩ (ps_cons ⟨⟨_, rfl⟩, by unfold I64; omega, by unfold I64; omega⟩ (ps_cons hp (ps_cons ⟨⟨_, rfl⟩, _, rfl⟩ (ps_cons ⟨⟨_, rfl⟩, by unfold I64; omega, by unfold I64; omega⟩ (ps_cons hp (ps_cons ⟨⟨_, rfl⟩, _, rfl⟩ (ps_cons ⟨⟨_, rfl⟩, by unfold I64; omega, by unfold I64; omega⟩ ps_nil))))))))))))))))))))) rfl
theorem t9_0_7_run (p : Int) : runF P I0 3 30 [.int .i64 0, .int .i64 p, .int .i64 7] (.lit :: (.lit :: (.b true :: (.b true :: [])))) =
  some (I (tk 0 p 7),
    [(decide (p ≥ -17179869184)) = true,
     (decide (p ≤ 17179869184)) = true,
     nP1 [.int .i64 1],
     nP1 [.int .i64 p],
     iP2 [I (ofI 1), I (pointI p)],
     partP [I (mulI (tk 0 p 0) (pointI p)), .int .i64 (-1), .int .i64 2],
     nP1 [.int .i64 p],
     iP2 [I (tk 0 p 1), I (pointI p)],
     partP [I (mulI (tk 0 p 1) (pointI p)), .int .i64 (-1), .int .i64 12],
     nP1 [.int .i64 p],
     iP2 [I (tk 0 p 2), I (pointI p)],
     partP [I (mulI (tk 0 p 2) (pointI p)), .int .i64 (-1), .int .i64 30],
     nP1 [.int .i64 p],
     iP2 [I (tk 0 p 3), I (pointI p)],
     partP [I (mulI (tk 0 p 3) (pointI p)), .int .i64 (-1), .int .i64 56],
     nP1 [.int .i64 p],
     iP2 [I (tk 0 p 4), I (pointI p)],
     partP [I (mulI (tk 0 p 4) (pointI p)), .int .i64 (-1), .int .i64 90],
     nP1 [.int .i64 p],
     iP2 [I (tk 0 p 5), I (pointI p)],
     partP [I (mulI (tk 0 p 5) (pointI p)), .int .i64 (-1), .int .i64 132],
     nP1 [.int .i64 p],
     iP2 [I (tk 0 p 6), I (pointI p)],
     partP [I (mulI (tk 0 p 6) (pointI p)), .int .i64 (-1), .int .i64 182]]) := by kernel_rfl
theorem t9_0_7_leaf (p : Int) (h1 : -17179869184 ≤ p) (h2 : p ≤ 17179869184) : Gives P 30 #[.int .i64 0, .int .i64 p, .int .i64 7] (I (T9 0 p 7)) := by
  have hp : I64 p := by unfold I64; omega
  have k1 : (decide (p ≥ -17179869184)) = true := decide_eq_true (by omega)
  have k2 : (decide (p ≤ 17179869184)) = true := decide_eq_true (by omega)
  exact gives_of_run mo (t9_0_7_run p) (ps_cons k1 (ps_cons k2 (ps_cons (by unfold nP1 I64; omega) (ps_cons hp (ps_cons ⟨⟨_, rfl⟩, _, rfl⟩ (ps_cons ⟨⟨_, rfl⟩, by unfold I64; omega, by unfold I64; omega⟩ (ps_cons hp (ps_cons ⟨⟨_, rfl⟩, _, rfl⟩ (ps_cons ⟨⟨_, rfl⟩, by unfold I64; omega, by unfold I64; omega⟩ (ps_cons hp (ps_cons ⟨⟨_, rfl⟩, _, rfl⟩ (ps_cons ⟨⟨_, rfl⟩, by unfold I64; omega, by unfold I64; omega⟩ (ps_cons hp (ps_cons ⟨⟨_, rfl⟩, _, rfl⟩ (ps_cons ⟨⟨_, rfl⟩, by unfold I64; omega, by unfold I64; omega⟩ (ps_cons hp (ps_cons ⟨⟨_, rfl⟩, _, rfl⟩ (ps_cons ⟨⟨_, rfl⟩, by unfold I64; omega, by unfold I64; omega⟩ (ps_cons hp (ps_cons ⟨⟨_, rfl⟩, _, rfl⟩ (ps_cons ⟨⟨_, rfl⟩, by unfold I64; omega, by unfold I64; omega⟩ (ps_cons hp (ps_cons ⟨⟨_, rfl⟩, _, rfl⟩ (ps_cons ⟨⟨_, rfl⟩, by unfold I64; omega, by unfold I64; omega⟩ ps_nil)))))))))))))))))))))))) rfl
theorem t9_0_8_run (p : Int) : runF P I0 3 30 [.int .i64 0, .int .i64 p, .int .i64 8] (.lit :: (.lit :: (.b true :: (.b true :: [])))) =
  some (I (tk 0 p 8),
    [(decide (p ≥ -17179869184)) = true,
     (decide (p ≤ 17179869184)) = true,
     nP1 [.int .i64 1],
     nP1 [.int .i64 p],
     iP2 [I (ofI 1), I (pointI p)],
     partP [I (mulI (tk 0 p 0) (pointI p)), .int .i64 (-1), .int .i64 2],
     nP1 [.int .i64 p],
     iP2 [I (tk 0 p 1), I (pointI p)],
     partP [I (mulI (tk 0 p 1) (pointI p)), .int .i64 (-1), .int .i64 12],
     nP1 [.int .i64 p],
     iP2 [I (tk 0 p 2), I (pointI p)],
     partP [I (mulI (tk 0 p 2) (pointI p)), .int .i64 (-1), .int .i64 30],
     nP1 [.int .i64 p],
     iP2 [I (tk 0 p 3), I (pointI p)],
     partP [I (mulI (tk 0 p 3) (pointI p)), .int .i64 (-1), .int .i64 56],
     nP1 [.int .i64 p],
     iP2 [I (tk 0 p 4), I (pointI p)],
     partP [I (mulI (tk 0 p 4) (pointI p)), .int .i64 (-1), .int .i64 90],
     nP1 [.int .i64 p],
     iP2 [I (tk 0 p 5), I (pointI p)],
     partP [I (mulI (tk 0 p 5) (pointI p)), .int .i64 (-1), .int .i64 132],
     nP1 [.int .i64 p],
     iP2 [I (tk 0 p 6), I (pointI p)],
     partP [I (mulI (tk 0 p 6) (pointI p)), .int .i64 (-1), .int .i64 182],
     nP1 [.int .i64 p],
     iP2 [I (tk 0 p 7), I (pointI p)],
     partP [I (mulI (tk 0 p 7) (pointI p)), .int .i64 (-1), .int .i64 240]]) := by kernel_rfl
theorem t9_0_8_leaf (p : Int) (h1 : -17179869184 ≤ p) (h2 : p ≤ 17179869184) : Gives P 30 #[.int .i64 0, .int .i64 p, .int .i64 8] (I (T9 0 p 8)) := by
  have hp : I64 p := by unfold I64; omega
  have k1 : (decide (p ≥ -17179869184)) = true := decide_eq_true (by omega)
  have k2 : (decide (p ≤ 17179869184)) = true := decide_eq_true (by omega)
  exact gives_of_run mo (t9_0_8_run p) (ps_cons k1 (ps_cons k2 (ps_cons (by unfold nP1 I64; omega) (ps_cons hp (ps_cons ⟨⟨_, rfl⟩, _, rfl⟩ (ps_cons ⟨⟨_, rfl⟩, by unfold I64; omega, by unfold I64; omega⟩ (ps_cons hp (ps_cons ⟨⟨_, rfl⟩, _, rfl⟩ (ps_cons ⟨⟨_, rfl⟩, by unfold I64; omega, by unfold I64; omega⟩ (ps_cons hp (ps_cons ⟨⟨_, rfl⟩, _, rfl⟩ (ps_cons ⟨⟨_, rfl⟩, by unfold I64; omega, by unfold I64; omega⟩ (ps_cons hp (ps_cons ⟨⟨_, rfl⟩, _, rfl⟩ (ps_cons ⟨⟨_, rfl⟩, by unfold I64; omega, by unfold I64; omega⟩ (ps_cons hp (ps_cons ⟨⟨_, rfl⟩, _, rfl⟩ (ps_cons ⟨⟨_, rfl⟩, by unfold I64; omega, by unfold I64; omega⟩ (ps_cons hp (ps_cons ⟨⟨_, rfl⟩, _, rfl⟩ (ps_cons ⟨⟨_, rfl⟩, by unfold I64; omega, by unfold I64; omega⟩ (ps_cons hp (ps_cons ⟨⟨_, rfl⟩, _, rfl⟩ (ps_cons ⟨⟨_, rfl⟩, by unfold I64; omega, by unfold I64; omega⟩ (ps_cons hp (ps_cons ⟨⟨_, rfl⟩, _, rfl⟩ (ps_cons ⟨⟨_, rfl⟩, by unfold I64; omega, by unfold I64; omega⟩ ps_nil))))))))))))))))))))))))))) rfl
theorem t9_0_9_run (p : Int) : runF P I0 3 30 [.int .i64 0, .int .i64 p, .int .i64 9] (.lit :: (.lit :: (.b true :: (.b true :: [])))) =
  some (I (tk 0 p 9),
    [(decide (p ≥ -17179869184)) = true,
     (decide (p ≤ 17179869184)) = true,
     nP1 [.int .i64 1],
     nP1 [.int .i64 p],
     iP2 [I (ofI 1), I (pointI p)],
     partP [I (mulI (tk 0 p 0) (pointI p)), .int .i64 (-1), .int .i64 2],
     nP1 [.int .i64 p],
     iP2 [I (tk 0 p 1), I (pointI p)],
     partP [I (mulI (tk 0 p 1) (pointI p)), .int .i64 (-1), .int .i64 12],
     nP1 [.int .i64 p],
     iP2 [I (tk 0 p 2), I (pointI p)],
     partP [I (mulI (tk 0 p 2) (pointI p)), .int .i64 (-1), .int .i64 30],
     nP1 [.int .i64 p],
     iP2 [I (tk 0 p 3), I (pointI p)],
     partP [I (mulI (tk 0 p 3) (pointI p)), .int .i64 (-1), .int .i64 56],
     nP1 [.int .i64 p],
     iP2 [I (tk 0 p 4), I (pointI p)],
     partP [I (mulI (tk 0 p 4) (pointI p)), .int .i64 (-1), .int .i64 90],
     nP1 [.int .i64 p],
     iP2 [I (tk 0 p 5), I (pointI p)],
     partP [I (mulI (tk 0 p 5) (pointI p)), .int .i64 (-1), .int .i64 132],
     nP1 [.int .i64 p],
     iP2 [I (tk 0 p 6), I (pointI p)],
     partP [I (mulI (tk 0 p 6) (pointI p)), .int .i64 (-1), .int .i64 182],
     nP1 [.int .i64 p],
     iP2 [I (tk 0 p 7), I (pointI p)],
     partP [I (mulI (tk 0 p 7) (pointI p)), .int .i64 (-1), .int .i64 240],
     nP1 [.int .i64 p],
     iP2 [I (tk 0 p 8), I (pointI p)],
     partP [I (mulI (tk 0 p 8) (pointI p)), .int .i64 (-1), .int .i64 306]]) := by kernel_rfl
theorem t9_0_9_leaf (p : Int) (h1 : -17179869184 ≤ p) (h2 : p ≤ 17179869184) : Gives P 30 #[.int .i64 0, .int .i64 p, .int .i64 9] (I (T9 0 p 9)) := by
  have hp : I64 p := by unfold I64; omega
  have k1 : (decide (p ≥ -17179869184)) = true := decide_eq_true (by omega)
  have k2 : (decide (p ≤ 17179869184)) = true := decide_eq_true (by omega)
  exact gives_of_run mo (t9_0_9_run p) (ps_cons k1 (ps_cons k2 (ps_cons (by unfold nP1 I64; omega) (ps_cons hp (ps_cons ⟨⟨_, rfl⟩, _, rfl⟩ (ps_cons ⟨⟨_, rfl⟩, by unfold I64; omega, by unfold I64; omega⟩ (ps_cons hp (ps_cons ⟨⟨_, rfl⟩, _, rfl⟩ (ps_cons ⟨⟨_, rfl⟩, by unfold I64; omega, by unfold I64; omega⟩ (ps_cons hp (ps_cons ⟨⟨_, rfl⟩, _, rfl⟩ (ps_cons ⟨⟨_, rfl⟩, by unfold I64; omega, by unfold I64; omega⟩ (ps_cons hp (ps_cons ⟨⟨_, rfl⟩, _, rfl⟩ (ps_cons ⟨⟨_, rfl⟩, by unfold I64; omega, by unfold I64; omega⟩ (ps_cons hp (ps_cons ⟨⟨_, rfl⟩, _, rfl⟩ (ps_cons ⟨⟨_, rfl⟩, by unfold I64; omega, by unfold I64; omega⟩ (ps_cons hp (ps_cons ⟨⟨_, rfl⟩, _, rfl⟩ (ps_cons ⟨⟨_, rfl⟩, by unfold I64; omega, by unfold I64; omega⟩ (ps_cons hp (ps_cons ⟨⟨_, rfl⟩, _, rfl⟩ (ps_cons ⟨⟨_, rfl⟩, by unfold I64; omega, by unfold I64; omega⟩ (ps_cons hp (ps_cons ⟨⟨_, rfl⟩, _, rfl⟩ (ps_cons ⟨⟨_, rfl⟩, by unfold I64; omega, by unfold I64; omega⟩ (ps_cons hp (ps_cons ⟨⟨_, rfl⟩, _, rfl⟩ (ps_cons ⟨⟨_, rfl⟩, by unfold I64; omega, by unfold I64; omega⟩ ps_nil)))))))))))))))))))))))))))))) rfl
theorem t9_0_10_run (p : Int) : runF P I0 3 30 [.int .i64 0, .int .i64 p, .int .i64 10] (.lit :: (.lit :: (.b true :: (.b true :: [])))) =
  some (I (tk 0 p 10),
    [(decide (p ≥ -17179869184)) = true,
     (decide (p ≤ 17179869184)) = true,
     nP1 [.int .i64 1],
     nP1 [.int .i64 p],
     iP2 [I (ofI 1), I (pointI p)],
     partP [I (mulI (tk 0 p 0) (pointI p)), .int .i64 (-1), .int .i64 2],
     nP1 [.int .i64 p],
     iP2 [I (tk 0 p 1), I (pointI p)],
     partP [I (mulI (tk 0 p 1) (pointI p)), .int .i64 (-1), .int .i64 12],
     nP1 [.int .i64 p],
     iP2 [I (tk 0 p 2), I (pointI p)],
     partP [I (mulI (tk 0 p 2) (pointI p)), .int .i64 (-1), .int .i64 30],
     nP1 [.int .i64 p],
     iP2 [I (tk 0 p 3), I (pointI p)],
     partP [I (mulI (tk 0 p 3) (pointI p)), .int .i64 (-1), .int .i64 56],
     nP1 [.int .i64 p],
     iP2 [I (tk 0 p 4), I (pointI p)],
     partP [I (mulI (tk 0 p 4) (pointI p)), .int .i64 (-1), .int .i64 90],
     nP1 [.int .i64 p],
     iP2 [I (tk 0 p 5), I (pointI p)],
     partP [I (mulI (tk 0 p 5) (pointI p)), .int .i64 (-1), .int .i64 132],
     nP1 [.int .i64 p],
     iP2 [I (tk 0 p 6), I (pointI p)],
     partP [I (mulI (tk 0 p 6) (pointI p)), .int .i64 (-1), .int .i64 182],
     nP1 [.int .i64 p],
     iP2 [I (tk 0 p 7), I (pointI p)],
     partP [I (mulI (tk 0 p 7) (pointI p)), .int .i64 (-1), .int .i64 240],
     nP1 [.int .i64 p],
     iP2 [I (tk 0 p 8), I (pointI p)],
     partP [I (mulI (tk 0 p 8) (pointI p)), .int .i64 (-1), .int .i64 306],
     nP1 [.int .i64 p],
     iP2 [I (tk 0 p 9), I (pointI p)],
     partP [I (mulI (tk 0 p 9) (pointI p)), .int .i64 (-1), .int .i64 380]]) := by kernel_rfl
theorem t9_0_10_leaf (p : Int) (h1 : -17179869184 ≤ p) (h2 : p ≤ 17179869184) : Gives P 30 #[.int .i64 0, .int .i64 p, .int .i64 10] (I (T9 0 p 10)) := by
  have hp : I64 p := by unfold I64; omega
  have k1 : (decide (p ≥ -17179869184)) = true := decide_eq_true (by omega)
  have k2 : (decide (p ≤ 17179869184)) = true := decide_eq_true (by omega)
  exact gives_of_run mo (t9_0_10_run p) (ps_cons k1 (ps_cons k2 (ps_cons (by unfold nP1 I64; omega) (ps_cons hp (ps_cons ⟨⟨_, rfl⟩, _, rfl⟩ (ps_cons ⟨⟨_, rfl⟩, by unfold I64; omega, by unfold I64; omega⟩ (ps_cons hp (ps_cons ⟨⟨_, rfl⟩, _, rfl⟩ (ps_cons ⟨⟨_, rfl⟩, by unfold I64; omega, by unfold I64; omega⟩ (ps_cons hp (ps_cons ⟨⟨_, rfl⟩, _, rfl⟩ (ps_cons ⟨⟨_, rfl⟩, by unfold I64; omega, by unfold I64; omega⟩ (ps_cons hp (ps_cons ⟨⟨_, rfl⟩, _, rfl⟩ (ps_cons ⟨⟨_, rfl⟩, by unfold I64; omega, by unfold I64; omega⟩ (ps_cons hp (ps_cons ⟨⟨_, rfl⟩, _, rfl⟩ (ps_cons ⟨⟨_, rfl⟩, by unfold I64; omega, by unfold I64; omega⟩ (ps_cons hp (ps_cons ⟨⟨_, rfl⟩, _, rfl⟩ (ps_cons ⟨⟨_, rfl⟩, by unfold I64; omega, by unfold I64; omega⟩ (ps_cons hp (ps_cons ⟨⟨_, rfl⟩, _, rfl⟩ (ps_cons ⟨⟨_, rfl⟩, by unfold I64; omega, by unfold I64; omega⟩ (ps_cons hp (ps_cons ⟨⟨_, rfl⟩, _, rfl⟩ (ps_cons ⟨⟨_, rfl⟩, by unfold I64; omega, by unfold I64; omega⟩ (ps_cons hp (ps_cons ⟨⟨_, rfl⟩, _, rfl⟩ (ps_cons ⟨⟨_, rfl⟩, by unfold I64; omega, by unfold I64; omega⟩ (ps_cons hp (ps_cons ⟨⟨_, rfl⟩, _, rfl⟩ (ps_cons ⟨⟨_, rfl⟩, by unfold I64; omega, by unfold I64; omega⟩ ps_nil))))))))))))))))))))))))))))))))) rfl
theorem t9_0_11_run (p : Int) : runF P I0 3 30 [.int .i64 0, .int .i64 p, .int .i64 11] (.lit :: (.lit :: (.b true :: (.b true :: [])))) =
  some (I (tk 0 p 11),
    [(decide (p ≥ -17179869184)) = true,
     (decide (p ≤ 17179869184)) = true,
     nP1 [.int .i64 1],
     nP1 [.int .i64 p],
     iP2 [I (ofI 1), I (pointI p)],
     partP [I (mulI (tk 0 p 0) (pointI p)), .int .i64 (-1), .int .i64 2],
     nP1 [.int .i64 p],
     iP2 [I (tk 0 p 1), I (pointI p)],
     partP [I (mulI (tk 0 p 1) (pointI p)), .int .i64 (-1), .int .i64 12],
     nP1 [.int .i64 p],
     iP2 [I (tk 0 p 2), I (pointI p)],
     partP [I (mulI (tk 0 p 2) (pointI p)), .int .i64 (-1), .int .i64 30],
     nP1 [.int .i64 p],
     iP2 [I (tk 0 p 3), I (pointI p)],
     partP [I (mulI (tk 0 p 3) (pointI p)), .int .i64 (-1), .int .i64 56],
     nP1 [.int .i64 p],
     iP2 [I (tk 0 p 4), I (pointI p)],
     partP [I (mulI (tk 0 p 4) (pointI p)), .int .i64 (-1), .int .i64 90],
     nP1 [.int .i64 p],
     iP2 [I (tk 0 p 5), I (pointI p)],
     partP [I (mulI (tk 0 p 5) (pointI p)), .int .i64 (-1), .int .i64 132],
     nP1 [.int .i64 p],
     iP2 [I (tk 0 p 6), I (pointI p)],
     partP [I (mulI (tk 0 p 6) (pointI p)), .int .i64 (-1), .int .i64 182],
     nP1 [.int .i64 p],
     iP2 [I (tk 0 p 7), I (pointI p)],
     partP [I (mulI (tk 0 p 7) (pointI p)), .int .i64 (-1), .int .i64 240],
     nP1 [.int .i64 p],
     iP2 [I (tk 0 p 8), I (pointI p)],
     partP [I (mulI (tk 0 p 8) (pointI p)), .int .i64 (-1), .int .i64 306],
     nP1 [.int .i64 p],
     iP2 [I (tk 0 p 9), I (pointI p)],
     partP [I (mulI (tk 0 p 9) (pointI p)), .int .i64 (-1), .int .i64 380],
     nP1 [.int .i64 p],
     iP2 [I (tk 0 p 10), I (pointI p)],
     partP [I (mulI (tk 0 p 10) (pointI p)), .int .i64 (-1), .int .i64 462]]) := by kernel_rfl
theorem t9_0_11_leaf (p : Int) (h1 : -17179869184 ≤ p) (h2 : p ≤ 17179869184) : Gives P 30 #[.int .i64 0, .int .i64 p, .int .i64 11] (I (T9 0 p 11)) := by
  have hp : I64 p := by unfold I64; omega
  have k1 : (decide (p ≥ -17179869184)) = true := decide_eq_true (by omega)
  have k2 : (decide (p ≤ 17179869184)) = true := decide_eq_true (by omega)
  exact gives_of_run mo (t9_0_11_run p) (ps_cons k1 (ps_cons k2 (ps_cons (by unfold nP1 I64; omega) (ps_cons hp (ps_cons ⟨⟨_, rfl⟩, _, rfl⟩ (ps_cons ⟨⟨_, rfl⟩, by unfold I64; omega, by unfold I64; omega⟩ (ps_cons hp (ps_cons ⟨⟨_, rfl⟩, _, rfl⟩ (ps_cons ⟨⟨_, rfl⟩, by unfold I64; omega, by unfold I64; omega⟩ (ps_cons hp (ps_cons ⟨⟨_, rfl⟩, _, rfl⟩ (ps_cons ⟨⟨_, rfl⟩, by unfold I64; omega, by unfold I64; omega⟩ (ps_cons hp (ps_cons ⟨⟨_, rfl⟩, _, rfl⟩ (ps_cons ⟨⟨_, rfl⟩, by unfold I64; omega, by unfold I64; omega⟩ (ps_cons hp (ps_cons ⟨⟨_, rfl⟩, _, rfl⟩ (ps_cons ⟨⟨_, rfl⟩, by unfold I64; omega, by unfold I64; omega⟩ (ps_cons hp (ps_cons ⟨⟨_, rfl⟩, _, rfl⟩ (ps_cons ⟨⟨_, rfl⟩, by unfold I64; omega, by unfold I64; omega⟩ (ps_cons hp (ps_cons ⟨⟨_, rfl⟩, _, rfl⟩ (ps_cons ⟨⟨_, rfl⟩, by unfold I64; omega, by unfold I64; omega⟩ (ps_cons hp (ps_cons ⟨⟨_, rfl⟩, _, rfl⟩ (ps_cons ⟨⟨_, rfl⟩, by unfold I64; omega, by unfold I64; omega⟩ (ps_cons hp (ps_cons ⟨⟨_, rfl⟩, _, rfl⟩ (ps_cons ⟨⟨_, rfl⟩, by unfold I64; omega, by unfold I64; omega⟩ (ps_cons hp (ps_cons ⟨⟨_, rfl⟩, _, rfl⟩ (ps_cons ⟨⟨_, rfl⟩, by unfold I64; omega, by unfold I64; omega⟩ (ps_cons hp (ps_cons ⟨⟨_, rfl⟩, _, rfl⟩ (ps_cons ⟨⟨_, rfl⟩, by unfold I64; omega, by unfold I64; omega⟩ ps_nil)))))))))))))))))))))))))))))))))))) rfl
theorem t9_0_12_run (p : Int) : runF P I0 3 30 [.int .i64 0, .int .i64 p, .int .i64 12] (.lit :: (.lit :: (.b true :: (.b true :: [])))) =
  some (I (tk 0 p 12),
    [(decide (p ≥ -17179869184)) = true,
     (decide (p ≤ 17179869184)) = true,
     nP1 [.int .i64 1],
     nP1 [.int .i64 p],
     iP2 [I (ofI 1), I (pointI p)],
     partP [I (mulI (tk 0 p 0) (pointI p)), .int .i64 (-1), .int .i64 2],
     nP1 [.int .i64 p],
     iP2 [I (tk 0 p 1), I (pointI p)],
     partP [I (mulI (tk 0 p 1) (pointI p)), .int .i64 (-1), .int .i64 12],
     nP1 [.int .i64 p],
     iP2 [I (tk 0 p 2), I (pointI p)],
     partP [I (mulI (tk 0 p 2) (pointI p)), .int .i64 (-1), .int .i64 30],
     nP1 [.int .i64 p],
     iP2 [I (tk 0 p 3), I (pointI p)],
     partP [I (mulI (tk 0 p 3) (pointI p)), .int .i64 (-1), .int .i64 56],
     nP1 [.int .i64 p],
     iP2 [I (tk 0 p 4), I (pointI p)],
     partP [I (mulI (tk 0 p 4) (pointI p)), .int .i64 (-1), .int .i64 90],
     nP1 [.int .i64 p],
     iP2 [I (tk 0 p 5), I (pointI p)],
     partP [I (mulI (tk 0 p 5) (pointI p)), .int .i64 (-1), .int .i64 132],
     nP1 [.int .i64 p],
     iP2 [I (tk 0 p 6), I (pointI p)],
     partP [I (mulI (tk 0 p 6) (pointI p)), .int .i64 (-1), .int .i64 182],
     nP1 [.int .i64 p],
     iP2 [I (tk 0 p 7), I (pointI p)],
     partP [I (mulI (tk 0 p 7) (pointI p)), .int .i64 (-1), .int .i64 240],
     nP1 [.int .i64 p],
     iP2 [I (tk 0 p 8), I (pointI p)],
     partP [I (mulI (tk 0 p 8) (pointI p)), .int .i64 (-1), .int .i64 306],
     nP1 [.int .i64 p],
     iP2 [I (tk 0 p 9), I (pointI p)],
     partP [I (mulI (tk 0 p 9) (pointI p)), .int .i64 (-1), .int .i64 380],
     nP1 [.int .i64 p],
     iP2 [I (tk 0 p 10), I (pointI p)],
     partP [I (mulI (tk 0 p 10) (pointI p)), .int .i64 (-1), .int .i64 462],
     nP1 [.int .i64 p],
     iP2 [I (tk 0 p 11), I (pointI p)],
     partP [I (mulI (tk 0 p 11) (pointI p)), .int .i64 (-1), .int .i64 552]]) := by kernel_rfl
theorem t9_0_12_leaf (p : Int) (h1 : -17179869184 ≤ p) (h2 : p ≤ 17179869184) : Gives P 30 #[.int .i64 0, .int .i64 p, .int .i64 12] (I (T9 0 p 12)) := by
  have hp : I64 p := by unfold I64; omega
  have k1 : (decide (p ≥ -17179869184)) = true := decide_eq_true (by omega)
  have k2 : (decide (p ≤ 17179869184)) = true := decide_eq_true (by omega)
  exact gives_of_run mo (t9_0_12_run p) (ps_cons k1 (ps_cons k2 (ps_cons (by unfold nP1 I64; omega) (ps_cons hp (ps_cons ⟨⟨_, rfl⟩, _, rfl⟩ (ps_cons ⟨⟨_, rfl⟩, by unfold I64; omega, by unfold I64; omega⟩ (ps_cons hp (ps_cons ⟨⟨_, rfl⟩, _, rfl⟩ (ps_cons ⟨⟨_, rfl⟩, by unfold I64; omega, by unfold I64; omega⟩ (ps_cons hp (ps_cons ⟨⟨_, rfl⟩, _, rfl⟩ (ps_cons ⟨⟨_, rfl⟩, by unfold I64; omega, by unfold I64; omega⟩ (ps_cons hp (ps_cons ⟨⟨_, rfl⟩, _, rfl⟩ (ps_cons ⟨⟨_, rfl⟩, by unfold I64; omega, by unfold I64; omega⟩ (ps_cons hp (ps_cons ⟨⟨_, rfl⟩, _, rfl⟩ (ps_cons ⟨⟨_, rfl⟩, by unfold I64; omega, by unfold I64; omega⟩ (ps_cons hp (ps_cons ⟨⟨_, rfl⟩, _, rfl⟩ (ps_cons ⟨⟨_, rfl⟩, by unfold I64; omega, by unfold I64; omega⟩ (ps_cons hp (ps_cons ⟨⟨_, rfl⟩, _, rfl⟩ (ps_cons ⟨⟨_, rfl⟩, by unfold I64; omega, by unfold I64; omega⟩ (ps_cons hp (ps_cons ⟨⟨_, rfl⟩, _, rfl⟩ (ps_cons ⟨⟨_, rfl⟩, by unfold I64; omega, by unfold I64; omega⟩ (ps_cons hp (ps_cons ⟨⟨_, rfl⟩, _, rfl⟩ (ps_cons ⟨⟨_, rfl⟩, by unfold I64; omega, by unfold I64; omega⟩ (ps_cons hp (ps_cons ⟨⟨_, rfl⟩, _, rfl⟩ (ps_cons ⟨⟨_, rfl⟩, by unfold I64; omega, by unfold I64; omega⟩ (ps_cons hp (ps_cons ⟨⟨_, rfl⟩, _, rfl⟩ (ps_cons ⟨⟨_, rfl⟩, by unfold I64; omega, by unfold I64; omega⟩ (ps_cons hp (ps_cons ⟨⟨_, rfl⟩, _, rfl⟩ (ps_cons ⟨⟨_, rfl⟩, by unfold I64; omega, by unfold I64; omega⟩ ps_nil))))))))))))))))))))))))))))))))))))))) rfl
theorem t9_0_13_run (p : Int) : runF P I0 3 30 [.int .i64 0, .int .i64 p, .int .i64 13] (.lit :: (.lit :: (.b true :: (.b true :: [])))) =
  some (I (tk 0 p 13),
    [(decide (p ≥ -17179869184)) = true,
     (decide (p ≤ 17179869184)) = true,
     nP1 [.int .i64 1],
     nP1 [.int .i64 p],
     iP2 [I (ofI 1), I (pointI p)],
     partP [I (mulI (tk 0 p 0) (pointI p)), .int .i64 (-1), .int .i64 2],
     nP1 [.int .i64 p],
     iP2 [I (tk 0 p 1), I (pointI p)],
     partP [I (mulI (tk 0 p 1) (pointI p)), .int .i64 (-1), .int .i64 12],
     nP1 [.int .i64 p],
     iP2 [I (tk 0 p 2), I (pointI p)],
     partP [I (mulI (tk 0 p 2) (pointI p)), .int .i64 (-1), .int .i64 30],
     nP1 [.int .i64 p],
     iP2 [I (tk 0 p 3), I (pointI p)],
     partP [I (mulI (tk 0 p 3) (pointI p)), .int .i64 (-1), .int .i64 56],
     nP1 [.int .i64 p],
     iP2 [I (tk 0 p 4), I (pointI p)],
     partP [I (mulI (tk 0 p 4) (pointI p)), .int .i64 (-1), .int .i64 90],
     nP1 [.int .i64 p],
     iP2 [I (tk 0 p 5), I (pointI p)],
     partP [I (mulI (tk 0 p 5) (pointI p)), .int .i64 (-1), .int .i64 132],
     nP1 [.int .i64 p],
     iP2 [I (tk 0 p 6), I (pointI p)],
     partP [I (mulI (tk 0 p 6) (pointI p)), .int .i64 (-1), .int .i64 182],
     nP1 [.int .i64 p],
     iP2 [I (tk 0 p 7), I (pointI p)],
     partP [I (mulI (tk 0 p 7) (pointI p)), .int .i64 (-1), .int .i64 240],
     nP1 [.int .i64 p],
     iP2 [I (tk 0 p 8), I (pointI p)],
     partP [I (mulI (tk 0 p 8) (pointI p)), .int .i64 (-1), .int .i64 306],
     nP1 [.int .i64 p],
     iP2 [I (tk 0 p 9), I (pointI p)],
     partP [I (mulI (tk 0 p 9) (pointI p)), .int .i64 (-1), .int .i64 380],
     nP1 [.int .i64 p],
     iP2 [I (tk 0 p 10), I (pointI p)],
     partP [I (mulI (tk 0 p 10) (pointI p)), .int .i64 (-1), .int .i64 462],
     nP1 [.int .i64 p],
     iP2 [I (tk 0 p 11), I (pointI p)],
     partP [I (mulI (tk 0 p 11) (pointI p)), .int .i64 (-1), .int .i64 552],
     nP1 [.int .i64 p],
     iP2 [I (tk 0 p 12), I (pointI p)],
     partP [I (mulI (tk 0 p 12) (pointI p)), .int .i64 (-1), .int .i64 650]]) := by kernel_rfl
theorem t9_0_13_leaf (p : Int) (h1 : -17179869184 ≤ p) (h2 : p ≤ 17179869184) : Gives P 30 #[.int .i64 0, .int .i64 p, .int .i64 13] (I (T9 0 p 13)) := by
  have hp : I64 p := by unfold I64; omega
  have k1 : (decide (p ≥ -17179869184)) = true := decide_eq_true (by omega)
  have k2 : (decide (p ≤ 17179869184)) = true := decide_eq_true (by omega)
  exact gives_of_run mo (t9_0_13_run p) (ps_cons k1 (ps_cons k2 (ps_cons (by unfold nP1 I64; omega) (ps_cons hp (ps_cons ⟨⟨_, rfl⟩, _, rfl⟩ (ps_cons ⟨⟨_, rfl⟩, by unfold I64; omega, by unfold I64; omega⟩ (ps_cons hp (ps_cons ⟨⟨_, rfl⟩, _, rfl⟩ (ps_cons ⟨⟨_, rfl⟩, by unfold I64; omega, by unfold I64; omega⟩ (ps_cons hp (ps_cons ⟨⟨_, rfl⟩, _, rfl⟩ (ps_cons ⟨⟨_, rfl⟩, by unfold I64; omega, by unfold I64; omega⟩ (ps_cons hp (ps_cons ⟨⟨_, rfl⟩, _, rfl⟩ (ps_cons ⟨⟨_, rfl⟩, by unfold I64; omega, by unfold I64; omega⟩ (ps_cons hp (ps_cons ⟨⟨_, rfl⟩, _, rfl⟩ (ps_cons ⟨⟨_, rfl⟩, by unfold I64; omega, by unfold I64; omega⟩ (ps_cons hp (ps_cons ⟨⟨_, rfl⟩, _, rfl⟩ (ps_cons ⟨⟨_, rfl⟩, by unfold I64; omega, by unfold I64; omega⟩ (ps_cons hp (ps_cons ⟨⟨_, rfl⟩, _, rfl⟩ (ps_cons ⟨⟨_, rfl⟩, by unfold I64; omega, by unfold I64; omega⟩ (ps_cons hp (ps_cons ⟨⟨_, rfl⟩, _, rfl⟩ (ps_cons ⟨⟨_, rfl⟩, by unfold I64; omega, by unfold I64; omega⟩ (ps_cons hp (ps_cons ⟨⟨_, rfl⟩, _, rfl⟩ (ps_cons ⟨⟨_, rfl⟩, by unfold I64; omega, by unfold I64; omega⟩ (ps_cons hp (ps_cons ⟨⟨_, rfl⟩, _, rfl⟩ (ps_cons ⟨⟨_, rfl⟩, by unfold I64; omega, by unfold I64; omega⟩ (ps_cons hp (ps_cons ⟨⟨_, rfl⟩, _, rfl⟩ (ps_cons ⟨⟨_, rfl⟩, by unfold I64; omega, by unfold I64; omega⟩ (ps_cons hp (ps_cons ⟨⟨_, rfl⟩, _, rfl⟩ (ps_cons ⟨⟨_, rfl⟩, by unfold I64; omega, by unfold I64; omega⟩ (ps_cons hp (ps_cons ⟨⟨_, rfl⟩, _, rfl⟩ (ps_cons ⟨⟨_, rfl⟩, by unfold I64; omega, by unfold I64; omega⟩ ps_nil)))))))))))))))))))))))))))))))))))))))))) rfl
theorem t9_0_14_run (p : Int) : runF P I0 3 30 [.int .i64 0, .int .i64 p, .int .i64 14] (.lit :: (.lit :: (.b true :: (.b true :: [])))) =
  some (I (tk 0 p 14),
    [(decide (p ≥ -17179869184)) = true,
     (decide (p ≤ 17179869184)) = true,
     nP1 [.int .i64 1],
     nP1 [.int .i64 p],
     iP2 [I (ofI 1), I (pointI p)],
     partP [I (mulI (tk 0 p 0) (pointI p)), .int .i64 (-1), .int .i64 2],
     nP1 [.int .i64 p],
     iP2 [I (tk 0 p 1), I (pointI p)],
     partP [I (mulI (tk 0 p 1) (pointI p)), .int .i64 (-1), .int .i64 12],
     nP1 [.int .i64 p],
     iP2 [I (tk 0 p 2), I (pointI p)],
     partP [I (mulI (tk 0 p 2) (pointI p)), .int .i64 (-1), .int .i64 30],
     nP1 [.int .i64 p],
     iP2 [I (tk 0 p 3), I (pointI p)],
     partP [I (mulI (tk 0 p 3) (pointI p)), .int .i64 (-1), .int .i64 56],
     nP1 [.int .i64 p],
     iP2 [I (tk 0 p 4), I (pointI p)],
     partP [I (mulI (tk 0 p 4) (pointI p)), .int .i64 (-1), .int .i64 90],
     nP1 [.int .i64 p],
     iP2 [I (tk 0 p 5), I (pointI p)],
     partP [I (mulI (tk 0 p 5) (pointI p)), .int .i64 (-1), .int .i64 132],
     nP1 [.int .i64 p],
     iP2 [I (tk 0 p 6), I (pointI p)],
     partP [I (mulI (tk 0 p 6) (pointI p)), .int .i64 (-1), .int .i64 182],
     nP1 [.int .i64 p],
     iP2 [I (tk 0 p 7), I (pointI p)],
     partP [I (mulI (tk 0 p 7) (pointI p)), .int .i64 (-1), .int .i64 240],
     nP1 [.int .i64 p],
     iP2 [I (tk 0 p 8), I (pointI p)],
     partP [I (mulI (tk 0 p 8) (pointI p)), .int .i64 (-1), .int .i64 306],
     nP1 [.int .i64 p],
     iP2 [I (tk 0 p 9), I (pointI p)],
     partP [I (mulI (tk 0 p 9) (pointI p)), .int .i64 (-1), .int .i64 380],
     nP1 [.int .i64 p],
     iP2 [I (tk 0 p 10), I (pointI p)],
     partP [I (mulI (tk 0 p 10) (pointI p)), .int .i64 (-1), .int .i64 462],
     nP1 [.int .i64 p],
     iP2 [I (tk 0 p 11), I (pointI p)],
     partP [I (mulI (tk 0 p 11) (pointI p)), .int .i64 (-1), .int .i64 552],
     nP1 [.int .i64 p],
     iP2 [I (tk 0 p 12), I (pointI p)],
     partP [I (mulI (tk 0 p 12) (pointI p)), .int .i64 (-1), .int .i64 650],
     nP1 [.int .i64 p],
     iP2 [I (tk 0 p 13), I (pointI p)],
     partP [I (mulI (tk 0 p 13) (pointI p)), .int .i64 (-1), .int .i64 756]]) := by kernel_rfl
theorem t9_0_14_leaf (p : Int) (h1 : -17179869184 ≤ p) (h2 : p ≤ 17179869184) : Gives P 30 #[.int .i64 0, .int .i64 p, .int .i64 14] (I (T9 0 p 14)) := by
  have hp : I64 p := by unfold I64; omega
  have k1 : (decide (p ≥ -17179869184)) = true := decide_eq_true (by omega)
  have k2 : (decide (p ≤ 17179869184)) = true := decide_eq_true (by omega)
  exact gives_of_run mo (t9_0_14_run p) (ps_cons k1 (ps_cons k2 (ps_cons (by unfold nP1 I64; omega) (ps_cons hp (ps_cons ⟨⟨_, rfl⟩, _, rfl⟩ (ps_cons ⟨⟨_, rfl⟩, by unfold I64; omega, by unfold I64; omega⟩ (ps_cons hp (ps_cons ⟨⟨_, rfl⟩, _, rfl⟩ (ps_cons ⟨⟨_, rfl⟩, by unfold I64; omega, by unfold I64; omega⟩ (ps_cons hp (ps_cons ⟨⟨_, rfl⟩, _, rfl⟩ (ps_cons ⟨⟨_, rfl⟩, by unfold I64; omega, by unfold I64; omega⟩ (ps_cons hp (ps_cons ⟨⟨_, rfl⟩, _, rfl⟩ (ps_cons ⟨⟨_, rfl⟩, by unfold I64; omega, by unfold I64; omega⟩ (ps_cons hp (ps_cons ⟨⟨_, rfl⟩, _, rfl⟩ (ps_cons ⟨⟨_, rfl⟩, by unfold I64; omega, by unfold I64; omega⟩ (ps_cons hp (ps_cons ⟨⟨_, rfl⟩, _, rfl⟩ (ps_cons ⟨⟨_, rfl⟩, by unfold I64; omega, by unfold I64; omega⟩ (ps_cons hp (ps_cons ⟨⟨_, rfl⟩, _, rfl⟩ (ps_cons ⟨⟨_, rfl⟩, by unfold I64; omega, by unfold I64; omega⟩ (ps_cons hp (ps_cons ⟨⟨_, rfl⟩, _, rfl⟩ (ps_cons ⟨⟨_, rfl⟩, by unfold I64; omega, by unfold I64; omega⟩ (ps_cons hp (ps_cons ⟨⟨_, rfl⟩, _, rfl⟩ (ps_cons ⟨⟨_, rfl⟩, by unfold I64; omega, by unfold I64; omega⟩ (ps_cons hp (ps_cons ⟨⟨_, rfl⟩, _, rfl⟩ (ps_cons ⟨⟨_, rfl⟩, by unfold I64; omega, by unfold I64; omega⟩ (ps_cons hp (ps_cons ⟨⟨_, rfl⟩, _, rfl⟩ (ps_cons ⟨⟨_, rfl⟩, by unfold I64; omega, by unfold I64; omega⟩ (ps_cons hp (ps_cons ⟨⟨_, rfl⟩, _, rfl⟩ (ps_cons ⟨⟨_, rfl⟩, by unfold I64; omega, by unfold I64; omega⟩ (ps_cons hp (ps_cons ⟨⟨_, rfl⟩, _, rfl⟩ (ps_cons ⟨⟨_, rfl⟩, by unfold I64; omega, by unfold I64; omega⟩ (ps_cons hp (ps_cons ⟨⟨_, rfl⟩, _, rfl⟩ (ps_cons ⟨⟨_, rfl⟩, by unfold I64; omega, by unfold I64; omega⟩ ps_nil))))))))))))))))))))))))))))))))))))))))))))) rfl
theorem t9_0_15_run (p : Int) : runF P I0 2 30 [.int .i64 0, .int .i64 p, .int .i64 15] (.lit :: (.lit :: (.b true :: (.b true :: [])))) =
  some (I (⟨0, 0, true⟩),
    [(decide (p ≥ -17179869184)) = true,
     (decide (p ≤ 17179869184)) = true]) := by kernel_rfl
theorem t9_0_15_leaf (p : Int) (h1 : -17179869184 ≤ p) (h2 : p ≤ 17179869184) : Gives P 30 #[.int .i64 0, .int .i64 p, .int .i64 15] (I (T9 0 p 15)) := by
  have hp : I64 p := by unfold I64; omega
  have k1 : (decide (p ≥ -17179869184)) = true := decide_eq_true (by omega)
  have k2 : (decide (p ≤ 17179869184)) = true := decide_eq_true (by omega)
  exact gives_of_run mo (t9_0_15_run p) (ps_cons k1 (ps_cons k2 ps_nil)) rfl
theorem t9_1_0_run (p : Int) : runF P I0 3 30 [.int .i64 1, .int .i64 p, .int .i64 0] (.lit :: (.lit :: (.b true :: (.b true :: [])))) =
  some (I (ofI 1),
    [(decide (p ≥ -17179869184)) = true,
     (decide (p ≤ 17179869184)) = true,
     nP1 [.int .i64 1]]) := by kernel_rfl
theorem t9_1_0_leaf (p : Int) (h1 : -17179869184 ≤ p) (h2 : p ≤ 17179869184) : Gives P 30 #[.int .i64 1, .int .i64 p, .int .i64 0] (I (T9 1 p 0)) := by
  have hp : I64 p := by unfold I64; omega
  have k1 : (decide (p ≥ -17179869184)) = true := decide_eq_true (by omega)
  have k2 : (decide (p ≤ 17179869184)) = true := decide_eq_true (by omega)
  exact gives_of_run mo (t9_1_0_run p) (ps_cons k1 (ps_cons k2 (ps_cons (by unfold nP1 I64; omega) ps_nil))) rfl
theorem t9_1_1_run (p : Int) : runF P I0 3 30 [.int .i64 1, .int .i64 p, .int .i64 1] (.lit :: (.lit :: (.b true :: (.b true :: [])))) =
  some (I (tk 1 p 1),
    [(decide (p ≥ -17179869184)) = true,
     (decide (p ≤ 17179869184)) = true,
     nP1 [.int .i64 1],
     nP1 [.int .i64 p],
     iP2 [I (ofI 1), I (pointI p)],
     partP [I (mulI (tk 1 p 0) (pointI p)), .int .i64 (-1), .int .i64 6]]) := by kernel_rfl
theorem t9_1_1_leaf (p : Int) (h1 : -17179869184 ≤ p) (h2 : p ≤ 17179869184) : Gives P 30 #[.int .i64 1, .int .i64 p, .int .i64 1] (I (T9 1 p 1)) := by
  have hp : I64 p := by unfold I64; omega
  have k1 : (decide (p ≥ -17179869184)) = true := decide_eq_true (by omega)
  have k2 : (decide (p ≤ 17179869184)) = true := decide_eq_true (by omega)
  exact gives_of_run mo (t9_1_1_run p) (ps_cons k1 (ps_cons k2 (ps_cons (by unfold nP1 I64; omega) (ps_cons hp (ps_cons ⟨⟨_, rfl⟩, _, rfl⟩ (ps_cons ⟨⟨_, rfl⟩, by unfold I64; omega, by unfold I64; omega⟩ ps_nil)))))) rfl
theorem t9_1_2_run (p : Int) : runF P I0 3 30 [.int .i64 1, .int .i64 p, .int .i64 2] (.lit :: (.lit :: (.b true :: (.b true :: [])))) =
  some (I (tk 1 p 2),
    [(decide (p ≥ -17179869184)) = true,
     (decide (p ≤ 17179869184)) = true,
     nP1 [.int .i64 1],
     nP1 [.int .i64 p],
     iP2 [I (ofI 1), I (pointI p)],
     partP [I (mulI (tk 1 p 0) (pointI p)), .int .i64 (-1), .int .i64 6],
     nP1 [.int .i64 p],
     iP2 [I (tk 1 p 1), I (pointI p)],
     partP [I (mulI (tk 1 p 1) (pointI p)), .int .i64 (-1), .int .i64 20]]) := by kernel_rfl
theorem t9_1_2_leaf (p : Int) (h1 : -17179869184 ≤ p) (h2 : p ≤ 17179869184) : Gives P 30 #[.int .i64 1, .int .i64 p, .int .i64 2] (I (T9 1 p 2)) := by
  have hp : I64 p := by unfold I64; omega
  have k1 : (decide (p ≥ -17179869184)) = true := decide_eq_true (by omega)
  have k2 : (decide (p ≤ 17179869184)) = true := decide_eq_true (by omega)
  exact gives_of_run mo (t9_1_2_run p) (ps_cons k1 (ps_cons k2 (ps_cons (by unfold nP1 I64; omega) (ps_cons hp (ps_cons ⟨⟨_, rfl⟩, _, rfl⟩ (ps_cons ⟨⟨_, rfl⟩, by unfold I64; omega, by unfold I64; omega⟩ (ps_cons hp (ps_cons ⟨⟨_, rfl⟩, _, rfl⟩ (ps_cons ⟨⟨_, rfl⟩, by unfold I64; omega, by unfold I64; omega⟩ ps_nil))))))))) rfl
theorem t9_1_3_run (p : Int) : runF P I0 3 30 [.int .i64 1, .int .i64 p, .int .i64 3] (.lit :: (.lit :: (.b true :: (.b true :: [])))) =
  some (I (tk 1 p 3),
    [(decide (p ≥ -17179869184)) = true,
     (decide (p ≤ 17179869184)) = true,
     nP1 [.int .i64 1],
     nP1 [.int .i64 p],
     iP2 [I (ofI 1), I (pointI p)],
     partP [I (mulI (tk 1 p 0) (pointI p)), .int .i64 (-1), .int .i64 6],
     nP1 [.int .i64 p],
     iP2 [I (tk 1 p 1), I (pointI p)],
     partP [I (mulI (tk 1 p 1) (pointI p)), .int .i64 (-1), .int .i64 20],
     nP1 [.int .i64 p],
     iP2 [I (tk 1 p 2), I (pointI p)],
     partP [I (mulI (tk 1 p 2) (pointI p)), .int .i64 (-1), .int .i64 42]]) := by kernel_rfl
theorem t9_1_3_leaf (p : Int) (h1 : -17179869184 ≤ p) (h2 : p ≤ 17179869184) : Gives P 30 #[.int .i64 1, .int .i64 p, .int .i64 3] (I (T9 1 p 3)) := by
  have hp : I64 p := by unfold I64; omega
  have k1 : (decide (p ≥ -17179869184)) = true := decide_eq_true (by omega)
  have k2 : (decide (p ≤ 17179869184)) = true := decide_eq_true (by omega)
  exact gives_of_run mo (t9_1_3_run p) (ps_cons k1 (ps_cons k2 (ps_cons (by unfold nP1 I64; omega) (ps_cons hp (ps_cons ⟨⟨_, rfl⟩, _, rfl⟩ (ps_cons ⟨⟨_, rfl⟩, by unfold I64; omega, by unfold I64; omega⟩ (ps_cons hp (ps_cons ⟨⟨_, rfl⟩, _, rfl⟩ (ps_cons ⟨⟨_, rfl⟩, by unfold I64; omega, by unfold I64; omega⟩ (ps_cons hp (ps_cons ⟨⟨_, rfl⟩, _, rfl⟩ (ps_cons ⟨⟨_, rfl⟩, by unfold I64; omega, by unfold I64; omega⟩ ps_nil)))))))))))) rfl
theorem t9_1_4_run (p : Int) : runF P I0 3 30 [.int .i64 1, .int .i64 p, .int .i64 4] (.lit :: (.lit :: (.b true :: (.b true :: [])))) =
  some (I (tk 1 p 4),
    [(decide (p ≥ -17179869184)) = true,
     (decide (p ≤ 17179869184)) = true,
     nP1 [.int .i64 1],
     nP1 [.int .i64 p],
     iP2 [I (ofI 1), I (pointI p)],
     partP [I (mulI (tk 1 p 0) (pointI p)), .int .i64 (-1), .int .i64 6],
     nP1 [.int .i64 p],
     iP2 [I (tk 1 p 1), I (pointI p)],
     partP [I (mulI (tk 1 p 1) (pointI p)), .int .i64 (-1), .int .i64 20],
     nP1 [.int .i64 p],
     iP2 [I (tk 1 p 2), I (pointI p)],
     partP [I (mulI (tk 1 p 2) (pointI p)), .int .i64 (-1), .int .i64 42],
     nP1 [.int .i64 p],
     iP2 [I (tk 1 p 3), I (pointI p)],
     partP [I (mulI (tk 1 p 3) (pointI p)), .int .i64 (-1), .int .i64 72]]) := by kernel_rfl
theorem t9_1_4_leaf (p : Int) (h1 : -17179869184 ≤ p) (h2 : p ≤ 17179869184) : Gives P 30 #[.int .i64 1, .int .i64 p, .int .i64 4] (I (T9 1 p 4)) := by
  have hp : I64 p := by unfold I64; omega
  have k1 : (decide (p ≥ -17179869184)) = true := decide_eq_true (by omega)
  have k2 : (decide (p ≤ 17179869184)) = true := decide_eq_true (by omega)
  exact gives_of_run mo (t9_1_4_run p) (ps_cons k1 (ps_cons k2 (ps_cons (by unfold nP1 I64; omega) (ps_cons hp (ps_cons ⟨⟨_, rfl⟩, _, rfl⟩ (ps_cons ⟨⟨_, rfl⟩, by unfold I64; omega, by unfold I64; omega⟩ (ps_cons hp (ps_cons ⟨⟨_, rfl⟩, _, rfl⟩ (ps_cons ⟨⟨_, rfl⟩, by unfold I64; omega, by unfold I64; omega⟩ (ps_cons hp (ps_cons ⟨⟨_, rfl⟩, _, rfl⟩ (ps_cons ⟨⟨_, rfl⟩, by unfold I64; omega, by unfold I64; omega⟩ (ps_cons hp (ps_cons ⟨⟨_, rfl⟩, _, rfl⟩ (ps_cons ⟨⟨_, rfl⟩, by unfold I64; omega, by unfold I64; omega⟩ ps_nil))))))))))))))) rfl
theorem t9_1_5_run (p : Int) : runF P I0 3 30 [.int .i64 1, .int .i64 p, .int .i64 5] (.lit :: (.lit :: (.b true :: (.b true :: [])))) =
  some (I (tk 1 p 5),
    [(decide (p ≥ -17179869184)) = true,
     (decide (p ≤ 17179869184)) = true,
     nP1 [.int .i64 1],
     nP1 [.int .i64 p],
     iP2 [I (ofI 1), I (pointI p)],
     partP [I (mulI (tk 1 p 0) (pointI p)), .int .i64 (-1), .int .i64 6],
     nP1 [.int .i64 p],
     iP2 [I (tk 1 p 1), I (pointI p)],
     partP [I (mulI (tk 1 p 1) (pointI p)), .int .i64 (-1), .int .i64 20],
     nP1 [.int .i64 p],
     iP2 [I (tk 1 p 2), I (pointI p)],
     partP [I (mulI (tk 1 p 2) (pointI p)), .int .i64 (-1), .int .i64 42],
     nP1 [.int .i64 p],
     iP2 [I (tk 1 p 3), I (pointI p)],
     partP [I (mulI (tk 1 p 3) (pointI p)), .int .i64 (-1), .int .i64 72],
     nP1 [.int .i64 p],
     iP2 [I (tk 1 p 4), I (pointI p)],
     partP [I (mulI (tk 1 p 4) (pointI p)), .int .i64 (-1), .int .i64 110]]) := by kernel_rfl
theorem t9_1_5_leaf (p : Int) (h1 : -17179869184 ≤ p) (h2 : p ≤ 17179869184) : Gives P 30 #[.int .i64 1, .int .i64 p, .int .i64 5] (I (T9 1 p 5)) := by
  have hp : I64 p := by unfold I64; omega
  have k1 : (decide (p ≥ -17179869184)) = true := decide_eq_true (by omega)
  have k2 : (decide (p ≤ 17179869184)) = true := decide_eq_true (by omega)
  exact gives_of_run mo (t9_1_5_run p) (ps_cons k1 (ps_cons k2 (ps_cons (by unfold nP1 I64; omega) (ps_cons hp (ps_cons ⟨⟨_, rfl⟩, _, rfl⟩ (ps_cons ⟨⟨_, rfl⟩, by unfold I64; omega, by unfold I64; omega⟩ (ps_cons hp (ps_cons ⟨⟨_, rfl⟩, _, rfl⟩ (ps_cons ⟨⟨_, rfl⟩, by unfold I64; omega, by unfold I64; omega⟩ (ps_cons hp (ps_cons ⟨⟨_, rfl⟩, _, rfl⟩ (ps_cons ⟨⟨_, rfl⟩, by unfold I64; omega, by unfold I64; omega⟩ (ps_cons hp (ps_cons ⟨⟨_, rfl⟩, _, rfl⟩ (ps_cons ⟨⟨_, rfl⟩, by unfold I64; omega, by unfold I64; omega⟩ (ps_cons hp (ps_cons ⟨⟨_, rfl⟩, _, rfl⟩ (ps_cons ⟨⟨_, rfl⟩, by unfold I64; omega, by unfold I64; omega⟩ ps_nil)))))))))))))))))) rfl
theorem t9_1_6_run (p : Int) : runF P I0 3 30 [.int .i64 1, .int .i64 p, .int .i64 6] (.lit :: (.lit :: (.b true :: (.b true :: [])))) =
  some (I (tk 1 p 6),
    [(decide (p ≥ -17179869184)) = true,
     (decide (p ≤ 17179869184)) = true,
     nP1 [.int .i64 1],
     nP1 [.int .i64 p],
     iP2 [I (ofI 1), I (pointI p)],
     partP [I (mulI (tk 1 p 0) (pointI p)), .int .i64 (-1), .int .i64 6],
     nP1 [.int .i64 p],
     iP2 [I (tk 1 p 1), I (pointI p)],
     partP [I (mulI (tk 1 p 1) (pointI p)), .int .i64 (-1), .int .i64 20],
     nP1 [.int .i64 p],
     iP2 [I (tk 1 p 2), I (pointI p)],
     partP [I (mulI (tk 1 p 2) (pointI p)), .int .i64 (-1), .int .i64 42],
     nP1 [.int .i64 p],
     iP2 [I (tk 1 p 3), I (pointI p)],
     partP [I (mulI (tk 1 p 3) (pointI p)), .int .i64 (-1), .int .i64 72],
     nP1 [.int .i64 p],
     iP2 [I (tk 1 p 4), I (pointI p)],
     partP [I (mulI (tk 1 p 4) (pointI p)), .int .i64 (-1), .int .i64 110],
     nP1 [.int .i64 p],
     iP2 [I (tk 1 p 5), I (pointI p)],
     partP [I (mulI (tk 1 p 5) (pointI p)), .int .i64 (-1), .int .i64 156]]) := by kernel_rfl
theorem t9_1_6_leaf (p : Int) (h1 : -17179869184 ≤ p) (h2 : p ≤ 17179869184) : Gives P 30 #[.int .i64 1, .int .i64 p, .int .i64 6] (I (T9 1 p 6)) := by
  have hp : I64 p := by unfold I64; omega
  have k1 : (decide (p ≥ -17179869184)) = true := decide_eq_true (by omega)
  have k2 : (decide (p ≤ 17179869184)) = true := decide_eq_true (by omega)
  exact gives_of_run mo (t9_1_6_run p) (ps_cons k1 (ps_cons k2 (ps_cons (by unfold nP1 I64; omega) (ps_cons hp (ps_cons ⟨⟨_, rfl⟩, _, rfl⟩ (ps_cons ⟨⟨_, rfl⟩, by unfold I64; omega, by unfold I64; omega⟩ (ps_cons hp (ps_cons ⟨⟨_, rfl⟩, _, rfl⟩ (ps_cons ⟨⟨_, rfl⟩, by unfold I64; omega, by unfold I64; omega⟩ (ps_cons hp (ps_cons ⟨⟨_, rfl⟩, _, rfl⟩ (ps_cons ⟨⟨_, rfl⟩, by unfold I64; omega, by unfold I64; omega⟩ (ps_cons hp (ps_cons ⟨⟨_, rfl⟩, _, rfl⟩ (ps_cons ⟨⟨_, rfl⟩, by unfold I64; omega, by unfold I64; omega⟩ (ps_cons hp (ps_cons ⟨⟨_, rfl⟩, _, rfl⟩ (ps_cons ⟨⟨_, rfl⟩, by unfold I64; omega, by unfold I64; omega⟩ (ps_cons hp (ps_cons ⟨⟨_, rfl⟩, _, rfl⟩ (ps_cons ⟨⟨_, rfl⟩, by unfold I64; omega, by unfold I64; omega⟩ ps_nil))))))))))))))))))))) rfl
theorem t9_1_7_run (p : Int) : runF P I0 3 30 [.int .i64 1, .int .i64 p, .int .i64 7] (.lit :: (.lit :: (.b true :: (.b true :: [])))) =
  some (I (tk 1 p 7),
    [(decide (p ≥ -17179869184)) = true,
     (decide (p ≤ 17179869184)) = true,
     nP1 [.int .i64 1],
     nP1 [.int .i64 p],
     iP2 [I (ofI 1), I (pointI p)],
     partP [I (mulI (tk 1 p 0) (pointI p)), .int .i64 (-1), .int .i64 6],
     nP1 [.int .i64 p],
     iP2 [I (tk 1 p 1), I (pointI p)],
     partP [I (mulI (tk 1 p 1) (pointI p)), .int .i64 (-1), .int .i64 20],
     nP1 [.int .i64 p],
     iP2 [I (tk 1 p 2), I (pointI p)],
     partP [I (mulI (tk 1 p 2) (pointI p)), .int .i64 (-1), .int .i64 42],
     nP1 [.int .i64 p],
     iP2 [I (tk 1 p 3), I (pointI p)],
     partP [I (mulI (tk 1 p 3) (pointI p)), .int .i64 (-1), .int .i64 72],
     nP1 [.int .i64 p],
     iP2 [I (tk 1 p 4), I (pointI p)],
     partP [I (mulI (tk 1 p 4) (pointI p)), .int .i64 (-1), .int .i64 110],
     nP1 [.int .i64 p],
     iP2 [I (tk 1 p 5), I (pointI p)],
     partP [I (mulI (tk 1 p 5) (pointI p)), .int .i64 (-1), .int .i64 156],
     nP1 [.int .i64 p],
     iP2 [I (tk 1 p 6), I (pointI p)],
     partP [I (mulI (tk 1 p 6) (pointI p)), .int .i64 (-1), .int .i64 210]]) := by kernel_rfl
theorem t9_1_7_leaf (p : Int) (h1 : -17179869184 ≤ p) (h2 : p ≤ 17179869184) : Gives P 30 #[.int .i64 1, .int .i64 p, .int .i64 7] (I (T9 1 p 7)) := by
  have hp : I64 p := by unfold I64; omega
  have k1 : (decide (p ≥ -17179869184)) = true := decide_eq_true (by omega)
  have k2 : (decide (p ≤ 17179869184)) = true := decide_eq_true (by omega)
  exact gives_of_run mo (t9_1_7_run p) (ps_cons k1 (ps_cons k2 (ps_cons (by unfold nP1 I64; omega) (ps_cons hp (ps_cons ⟨⟨_, rfl⟩, _, rfl⟩ (ps_cons ⟨⟨_, rfl⟩, by unfold I64; omega, by unfold I64; omega⟩ (ps_cons hp (ps_cons ⟨⟨_, rfl⟩, _, rfl⟩ (ps_cons ⟨⟨_, rfl⟩, by unfold I64; omega, by unfold I64; omega⟩ (ps_cons hp (ps_cons ⟨⟨_, rfl⟩, _, rfl⟩ (ps_cons ⟨⟨_, rfl⟩, by unfold I64; omega, by unfold I64; omega⟩ (ps_cons hp (ps_cons ⟨⟨_, rfl⟩, _, rfl⟩ (ps_cons ⟨⟨_, rfl⟩, by unfold I64; omega, by unfold I64; omega⟩ (ps_cons hp (ps_cons ⟨⟨_, rfl⟩, _, rfl⟩ (ps_cons ⟨⟨_, rfl⟩, by unfold I64; omega, by unfold I64; omega⟩ (ps_cons hp (ps_cons ⟨⟨_, rfl⟩, _, rfl⟩ (ps_cons ⟨⟨_, rfl⟩, by unfold I64; omega, by unfold I64; omega⟩ (ps_cons hp (ps_cons ⟨⟨_, rfl⟩, _, rfl⟩ (ps_cons ⟨⟨_, rfl⟩, by unfold I64; omega, by unfold I64; omega⟩ ps_nil)))))))))))))))))))))))) rfl
theorem t9_1_8_run (p : Int) : runF P I0 3 30 [.int .i64 1, .int .i64 p, .int .i64 8] (.lit :: (.lit :: (.b true :: (.b true :: [])))) =
  some (I (tk 1 p 8),
    [(decide (p ≥ -17179869184)) = true,
     (decide (p ≤ 17179869184)) = true,
     nP1 [.int .i64 1],
     nP1 [.int .i64 p],
     iP2 [I (ofI 1), I (pointI p)],
     partP [I (mulI (tk 1 p 0) (pointI p)), .int .i64 (-1), .int .i64 6],
     nP1 [.int .i64 p],
     iP2 [I (tk 1 p 1), I (pointI p)],
     partP [I (mulI (tk 1 p 1) (pointI p)), .int .i64 (-1), .int .i64 20],
     nP1 [.int .i64 p],
     iP2 [I (tk 1 p 2), I (pointI p)],
     partP [I (mulI (tk 1 p 2) (pointI p)), .int .i64 (-1), .int .i64 42],
     nP1 [.int .i64 p],
     iP2 [I (tk 1 p 3), I (pointI p)],
     partP [I (mulI (tk 1 p 3) (pointI p)), .int .i64 (-1), .int .i64 72],
     nP1 [.int .i64 p],
     iP2 [I (tk 1 p 4), I (pointI p)],
     partP [I (mulI (tk 1 p 4) (pointI p)), .int .i64 (-1), .int .i64 110],
     nP1 [.int .i64 p],
     iP2 [I (tk 1 p 5), I (pointI p)],
     partP [I (mulI (tk 1 p 5) (pointI p)), .int .i64 (-1), .int .i64 156],
     nP1 [.int .i64 p],
     iP2 [I (tk 1 p 6), I (pointI p)],
     partP [I (mulI (tk 1 p 6) (pointI p)), .int .i64 (-1), .int .i64 210],
     nP1 [.int .i64 p],
     iP2 [I (tk 1 p 7), I (pointI p)],
     partP [I (mulI (tk 1 p 7) (pointI p)), .int .i64 (-1), .int .i64 272]]) := by kernel_rfl
theorem t9_1_8_leaf (p : Int) (h1 : -17179869184 ≤ p) (h2 : p ≤ 17179869184) : Gives P 30 #[.int .i64 1, .int .i64 p, .int .i64 8] (I (T9 1 p 8)) := by
  have hp : I64 p := by unfold I64; omega
  have k1 : (decide (p ≥ -17179869184)) = true := decide_eq_true (by omega)
  have k2 : (decide (p ≤ 17179869184)) = true := decide_eq_true (by omega)
  exact gives_of_run mo (t9_1_8_run p) (ps_cons k1 (ps_cons k2 (ps_cons (by unfold nP1 I64; omega) (ps_cons hp (ps_cons ⟨⟨_, rfl⟩, _, rfl⟩ (ps_cons ⟨⟨_, rfl⟩, by unfold I64; omega, by unfold I64; omega⟩ (ps_cons hp (ps_cons ⟨⟨_, rfl⟩, _, rfl⟩ (ps_cons ⟨⟨_, rfl⟩, by unfold I64; omega, by unfold I64; omega⟩ (ps_cons hp (ps_cons ⟨⟨_, rfl⟩, _, rfl⟩ (ps_cons ⟨⟨_, rfl⟩, by unfold I64; omega, by unfold I64; omega⟩ (ps_cons hp (ps_cons ⟨⟨_, rfl⟩, _, rfl⟩ (ps_cons ⟨⟨_, rfl⟩, by unfold I64; omega, by unfold I64; omega⟩ (ps_cons hp (ps_cons ⟨⟨_, rfl⟩, _, rfl⟩ (ps_cons ⟨⟨_, rfl⟩, by unfold I64; omega, by unfold I64; omega⟩ (ps_cons hp (ps_cons ⟨⟨_, rfl⟩, _, rfl⟩ (ps_cons ⟨⟨_, rfl⟩, by unfold I64; omega, by unfold I64; omega⟩ (ps_cons hp (ps_cons ⟨⟨_, rfl⟩, _, rfl⟩ (ps_cons ⟨⟨_, rfl⟩, by unfold I64; omega, by unfold I64; omega⟩ (ps_cons hp (ps_cons ⟨⟨_, rfl⟩, _, rfl⟩ (ps_cons ⟨⟨_, rfl⟩, by unfold I64; omega, by unfold I64; omega⟩ ps_nil))))))))))))))))))))))))))) rfl
theorem t9_1_9_run (p : Int) : runF P I0 3 30 [.int .i64 1, .int .i64 p, .int .i64 9] (.lit :: (.lit :: (.b true :: (.b true :: [])))) =
  some (I (tk 1 p 9),
    [(decide (p ≥ -17179869184)) = true,
     (decide (p ≤ 17179869184)) = true,
     nP1 [.int .i64 1],
     nP1 [.int .i64 p],
     iP2 [I (ofI 1), I (pointI p)],
     partP [I (mulI (tk 1 p 0) (pointI p)), .int .i64 (-1), .int .i64 6],
     nP1 [.int .i64 p],
     iP2 [I (tk 1 p 1), I (pointI p)],
     partP [I (mulI (tk 1 p 1) (pointI p)), .int .i64 (-1), .int .i64 20],
     nP1 [.int .i64 p],
     iP2 [I (tk 1 p 2), I (pointI p)],
     partP [I (mulI (tk 1 p 2) (pointI p)), .int .i64 (-1), .int .i64 42],
     nP1 [.int .i64 p],
     iP2 [I (tk 1 p 3), I (pointI p)],
     partP [I (mulI (tk 1 p 3) (pointI p)), .int .i64 (-1), .int .i64 72],
     nP1 [.int .i64 p],
     iP2 [I (tk 1 p 4), I (pointI p)],
     partP [I (mulI (tk 1 p 4) (pointI p)), .int .i64 (-1), .int .i64 110],
     nP1 [.int .i64 p],
     iP2 [I (tk 1 p 5), I (pointI p)],
     partP [I (mulI (tk 1 p 5) (pointI p)), .int .i64 (-1), .int .i64 156],
     nP1 [.int .i64 p],
     iP2 [I (tk 1 p 6), I (pointI p)],
     partP [I (mulI (tk 1 p 6) (pointI p)), .int .i64 (-1), .int .i64 210],
     nP1 [.int .i64 p],
     iP2 [I (tk 1 p 7), I (pointI p)],
     partP [I (mulI (tk 1 p 7) (pointI p)), .int .i64 (-1), .int .i64 272],
     nP1 [.int .i64 p],
     iP2 [I (tk 1 p 8), I (pointI p)],
     partP [I (mulI (tk 1 p 8) (pointI p)), .int .i64 (-1), .int .i64 342]]) := by kernel_rfl
theorem t9_1_9_leaf (p : Int) (h1 : -17179869184 ≤ p) (h2 : p ≤ 17179869184) : Gives P 30 #[.int .i64 1, .int .i64 p, .int .i64 9] (I (T9 1 p 9)) := by
  have hp : I64 p := by unfold I64; omega
  have k1 : (decide (p ≥ -17179869184)) = true := decide_eq_true (by omega)
  have k2 : (decide (p ≤ 17179869184)) = true := decide_eq_true (by omega)
  exact gives_of_run mo (t9_1_9_run p) (ps_cons k1 (ps_cons k2 (ps_cons (by unfold nP1 I64; omega) (ps_cons hp (ps_cons ⟨⟨_, rfl⟩, _, rfl⟩ (ps_cons ⟨⟨_, rfl⟩, by unfold I64; omega, by unfold I64; omega⟩ (ps_cons hp (ps_cons ⟨⟨_, rfl⟩, _, rfl⟩ (ps_cons ⟨⟨_, rfl⟩, by unfold I64; omega, by unfold I64; omega⟩ (ps_cons hp (ps_cons ⟨⟨_, rfl⟩, _, rfl⟩ (ps_cons ⟨⟨_, rfl⟩, by unfold I64; omega, by unfold I64; omega⟩ (ps_cons hp (ps_cons ⟨⟨_, rfl⟩, _, rfl⟩ (ps_cons ⟨⟨_, rfl⟩, by unfold I64; omega, by unfold I64; omega⟩ (ps_cons hp (ps_cons ⟨⟨_, rfl⟩, _, rfl⟩ (ps_cons ⟨⟨_, rfl⟩, by unfold I64; omega, by unfold I64; omega⟩ (ps_cons hp (ps_cons ⟨⟨_, rfl⟩, _, rfl⟩ (ps_cons ⟨⟨_, rfl⟩, by unfold I64; omega, by unfold I64; omega⟩ (ps_cons hp (ps_cons ⟨⟨_, rfl⟩, _, rfl⟩ (ps_cons ⟨⟨_, rfl⟩, by unfold I64; omega, by unfold I64; omega⟩ (ps_cons hp (ps_cons ⟨⟨_, rfl⟩, _, rfl⟩ (ps_cons ⟨⟨_, rfl⟩, by unfold I64; omega, by unfold I64; omega⟩ (ps_cons hp (ps_cons ⟨⟨_, rfl⟩, _, rfl⟩ (ps_cons ⟨⟨_, rfl⟩, by unfold I64; omega, by unfold I64; omega⟩ ps_nil)))))))))))))))))))))))))))))) rfl
theorem t9_1_10_run (p : Int) : runF P I0 3 30 [.int .i64 1, .int .i64 p, .int .i64 10] (.lit :: (.lit :: (.b true :: (.b true :: [])))) =
  some (I (tk 1 p 10),
    [(decide (p ≥ -17179869184)) = true,
     (decide (p ≤ 17179869184)) = true,
     nP1 [.int .i64 1],
     nP1 [.int .i64 p],
     iP2 [I (ofI 1), I (pointI p)],
     partP [I (mulI (tk 1 p 0) (pointI p)), .int .i64 (-1), .int .i64 6],
     nP1 [.int .i64 p],
     iP2 [I (tk 1 p 1), I (pointI p)],
     partP [I (mulI (tk 1 p 1) (pointI p)), .int .i64 (-1), .int .i64 20],
     nP1 [.int .i64 p],
     iP2 [I (tk 1 p 2), I (pointI p)],
     partP [I (mulI (tk 1 p 2) (pointI p)), .int .i64 (-1), .int .i64 42],
     nP1 [.int .i64 p],
     iP2 [I (tk 1 p 3), I (pointI p)],
     partP [I (mulI (tk 1 p 3) (pointI p)), .int .i64 (-1), .int .i64 72],
     nP1 [.int .i64 p],
     iP2 [I (tk 1 p 4), I (pointI p)],
     partP [I (mulI (tk 1 p 4) (pointI p)), .int .i64 (-1), .int .i64 110],
     nP1 [.int .i64 p],
     iP2 [I (tk 1 p 5), I (pointI p)],
     partP [I (mulI (tk 1 p 5) (pointI p)), .int .i64 (-1), .int .i64 156],
     nP1 [.int .i64 p],
     iP2 [I (tk 1 p 6), I (pointI p)],
     partP [I (mulI (tk 1 p 6) (pointI p)), .int .i64 (-1), .int .i64 210],
     nP1 [.int .i64 p],
     iP2 [I (tk 1 p 7), I (pointI p)],
     partP [I (mulI (tk 1 p 7) (pointI p)), .int .i64 (-1), .int .i64 272],
     nP1 [.int .i64 p],
     iP2 [I (tk 1 p 8), I (pointI p)],
     partP [I (mulI (tk 1 p 8) (pointI p)), .int .i64 (-1), .int .i64 342],
     nP1 [.int .i64 p],
     iP2 [I (tk 1 p 9), I (pointI p)],
     partP [I (mulI (tk 1 p 9) (pointI p)), .int .i64 (-1), .int .i64 420]]) := by kernel_rfl
theorem t9_1_10_leaf (p : Int) (h1 : -17179869184 ≤ p) (h2 : p ≤ 17179869184) : Gives P 30 #[.int .i64 1, .int .i64 p, .int .i64 10] (I (T9 1 p 10)) := by
  have hp : I64 p := by unfold I64; omega
  have k1 : (decide (p ≥ -17179869184)) = true := decide_eq_true (by omega)
  have k2 : (decide (p ≤ 17179869184)) = true := decide_eq_true (by omega)
  exact gives_of_run mo (t9_1_10_run p) (ps_cons k1 (ps_cons k2 (ps_cons (by unfold nP1 I64; omega) (ps_cons hp (ps_cons ⟨⟨_, rfl⟩, _, rfl⟩ (ps_cons ⟨⟨_, rfl⟩, by unfold I64; omega, by unfold I64; omega⟩ (ps_cons hp (ps_cons ⟨⟨_, rfl⟩, _, rfl⟩ (ps_cons ⟨⟨_, rfl⟩, by unfold I64; omega, by unfold I64; omega⟩ (ps_cons hp (ps_cons ⟨⟨_, rfl⟩, _, rfl⟩ (ps_cons ⟨⟨_, rfl⟩, by unfold I64; omega, by unfold I64; omega⟩ (ps_cons hp (ps_cons ⟨⟨_, rfl⟩, _, rfl⟩ (ps_cons ⟨⟨_, rfl⟩, by unfold I64; omega, by unfold I64; omega⟩ (ps_cons hp (ps_cons ⟨⟨_, rfl⟩, _, rfl⟩ (ps_cons ⟨⟨_, rfl⟩, by unfold I64; omega, by unfold I64; omega⟩ (ps_cons hp (ps_cons ⟨⟨_, rfl⟩, _, rfl⟩ (ps_cons ⟨⟨_, rfl⟩, by unfold I64; omega, by unfold I64; omega⟩ (ps_cons hp (ps_cons ⟨⟨_, rfl⟩, _, rfl⟩ (ps_cons ⟨⟨_, rfl⟩, by unfold I64; omega, by unfold I64; omega⟩ (ps_cons hp (ps_cons ⟨⟨_, rfl⟩, _, rfl⟩ (ps_cons ⟨⟨_, rfl⟩, by unfold I64; omega, by unfold I64; omega⟩ (ps_cons hp (ps_cons ⟨⟨_, rfl⟩, _, rfl⟩ (ps_cons ⟨⟨_, rfl⟩, by unfold I64; omega, by unfold I64; omega⟩ (ps_cons hp (ps_cons ⟨⟨_, rfl⟩, _, rfl⟩ (ps_cons ⟨⟨_, rfl⟩, by unfold I64; omega, by unfold I64; omega⟩ ps_nil))))))))))))))))))))))))))))))))) rfl
theorem t9_1_11_run (p : Int) : runF P I0 3 30 [.int .i64 1, .int .i64 p, .int .i64 11] (.lit :: (.lit :: (.b true :: (.b true :: [])))) =
  some (I (tk 1 p 11),
    [(decide (p ≥ -17179869184)) = true,
     (decide (p ≤ 17179869184)) = true,
     nP1 [.int .i64 1],
     nP1 [.int .i64 p],
     iP2 [I (ofI 1), I (pointI p)],
     partP [I (mulI (tk 1 p 0) (pointI p)), .int .i64 (-1), .int .i64 6],
     nP1 [.int .i64 p],
     iP2 [I (tk 1 p 1), I (pointI p)],
     partP [I (mulI (tk 1 p 1) (pointI p)), .int .i64 (-1), .int .i64 20],
     nP1 [.int .i64 p],
     iP2 [I (tk 1 p 2), I (pointI p)],
     partP [I (mulI (tk 1 p 2) (pointI p)), .int .i64 (-1), .int .i64 42],
     nP1 [.int .i64 p],
     iP2 [I (tk 1 p 3), I (pointI p)],
     partP [I (mulI (tk 1 p 3) (pointI p)), .int .i64 (-1), .int .i64 72],
     nP1 [.int .i64 p],
     iP2 [I (tk 1 p 4), I (pointI p)],
     partP [I (mulI (tk 1 p 4) (pointI p)), .int .i64 (-1), .int .i64 110],
     nP1 [.int .i64 p],
     iP2 [I (tk 1 p 5), I (pointI p)],
     partP [I (mulI (tk 1 p 5) (pointI p)), .int .i64 (-1), .int .i64 156],
     nP1 [.int .i64 p],
     iP2 [I (tk 1 p 6), I (pointI p)],
     partP [I (mulI (tk 1 p 6) (pointI p)), .int .i64 (-1), .int .i64 210],
     nP1 [.int .i64 p],
     iP2 [I (tk 1 p 7), I (pointI p)],
     partP [I (mulI (tk 1 p 7) (pointI p)), .int .i64 (-1), .int .i64 272],
     nP1 [.int .i64 p],
     iP2 [I (tk 1 p 8), I (pointI p)],
     partP [I (mulI (tk 1 p 8) (pointI p)), .int .i64 (-1), .int .i64 342],
     nP1 [.int .i64 p],
     iP2 [I (tk 1 p 9), I (pointI p)],
     partP [I (mulI (tk 1 p 9) (pointI p)), .int .i64 (-1), .int .i64 420],
     nP1 [.int .i64 p],
     iP2 [I (tk 1 p 10), I (pointI p)],
     partP [I (mulI (tk 1 p 10) (pointI p)), .int .i64 (-1), .int .i64 506]]) := by kernel_rfl
theorem t9_1_11_leaf (p : Int) (h1 : -17179869184 ≤ p) (h2 : p ≤ 17179869184) : Gives P 30 #[.int .i64 1, .int .i64 p, .int .i64 11] (I (T9 1 p 11)) := by
  have hp : I64 p := by unfold I64; omega
  have k1 : (decide (p ≥ -17179869184)) = true := decide_eq_true (by omega)
  have k2 : (decide (p ≤ 17179869184)) = true := decide_eq_true (by omega)
  exact gives_of_run mo (t9_1_11_run p) (ps_cons k1 (ps_cons k2 (ps_cons (by unfold nP1 I64; omega) (ps_cons hp (ps_cons ⟨⟨_, rfl⟩, _, rfl⟩ (ps_cons ⟨⟨_, rfl⟩, by unfold I64; omega, by unfold I64; omega⟩ (ps_cons hp (ps_cons ⟨⟨_, rfl⟩, _, rfl⟩ (ps_cons ⟨⟨_, rfl⟩, by unfold I64; omega, by unfold I64; omega⟩ (ps_cons hp (ps_cons ⟨⟨_, rfl⟩, _, rfl⟩ (ps_cons ⟨⟨_, rfl⟩, by unfold I64; omega, by unfold I64; omega⟩ (ps_cons hp (ps_cons ⟨⟨_, rfl⟩, _, rfl⟩ (ps_cons ⟨⟨_, rfl⟩, by unfold I64; omega, by unfold I64; omega⟩ (ps_cons hp (ps_cons ⟨⟨_, rfl⟩, _, rfl⟩ (ps_cons ⟨⟨_, rfl⟩, by unfold I64; omega, by unfold I64; omega⟩ (ps_cons hp (ps_cons ⟨⟨_, rfl⟩, _, rfl⟩ (ps_cons ⟨⟨_, rfl⟩, by unfold I64; omega, by unfold I64; omega⟩ (ps_cons hp (ps_cons ⟨⟨_, rfl⟩, _, rfl⟩ (ps_cons ⟨⟨_, rfl⟩, by unfold I64; omega, by unfold I64; omega⟩ (ps_cons hp (ps_cons ⟨⟨_, rfl⟩, _, rfl⟩ (ps_cons ⟨⟨_, rfl⟩, by unfold I64; omega, by unfold I64; omega⟩ (ps_cons hp (ps_cons ⟨⟨_, rfl⟩, _, rfl⟩ (ps_cons ⟨⟨_, rfl⟩, by unfold I64; omega, by unfold I64; omega⟩ (ps_cons hp (ps_cons ⟨⟨_, rfl⟩, _, rfl⟩ (ps_cons ⟨⟨_, rfl⟩, by unfold I64; omega, by unfold I64; omega⟩ (ps_cons hp (ps_cons ⟨⟨_, rfl⟩, _, rfl⟩ (ps_cons ⟨⟨_, rfl⟩, by unfold I64; omega, by unfold I64; omega⟩ ps_nil)))))))))))))))))))))))))))))))))))) rfl
theorem t9_1_12_run (p : Int) : runF P I0 3 30 [.int .i64 1, .int .i64 p, .int .i64 12] (.lit :: (.lit :: (.b true :: (.b true :: [])))) =
  some (I (tk 1 p 12),
    [(decide (p ≥ -17179869184)) = true,
     (decide (p ≤ 17179869184)) = true,
     nP1 [.int .i64 1],
     nP1 [.int .i64 p],
     iP2 [I (ofI 1), I (pointI p)],
     partP [I (mulI (tk 1 p 0) (pointI p)), .int .i64 (-1), .int .i64 6],
     nP1 [.int .i64 p],
     iP2 [I (tk 1 p 1), I (pointI p)],
     partP [I (mulI (tk 1 p 1) (pointI p)), .int .i64 (-1), .int .i64 20],
     nP1 [.int .i64 p],
     iP2 [I (tk 1 p 2), I (pointI p)],
     partP [I (mulI (tk 1 p 2) (pointI p)), .int .i64 (-1), .int .i64 42],
     nP1 [.int .i64 p],
     iP2 [I (tk 1 p 3), I (pointI p)],
     partP [I (mulI (tk 1 p 3) (pointI p)), .int .i64 (-1), .int .i64 72],
     nP1 [.int .i64 p],
     iP2 [I (tk 1 p 4), I (pointI p)],
     partP [I (mulI (tk 1 p 4) (pointI p)), .int .i64 (-1), .int .i64 110],
     nP1 [.int .i64 p],
     iP2 [I (tk 1 p 5), I (pointI p)],
     partP [I (mulI (tk 1 p 5) (pointI p)), .int .i64 (-1), .int .i64 156],
     nP1 [.int .i64 p],
     iP2 [I (tk 1 p 6), I (pointI p)],
     partP [I (mulI (tk 1 p 6) (pointI p)), .int .i64 (-1), .int .i64 210],
     nP1 [.int .i64 p],
     iP2 [I (tk 1 p 7), I (pointI p)],
     partP [I (mulI (tk 1 p 7) (pointI p)), .int .i64 (-1), .int .i64 272],
     nP1 [.int .i64 p],
     iP2 [I (tk 1 p 8), I (pointI p)],
     partP [I (mulI (tk 1 p 8) (pointI p)), .int .i64 (-1), .int .i64 342],
     nP1 [.int .i64 p],
     iP2 [I (tk 1 p 9), I (pointI p)],
     partP [I (mulI (tk 1 p 9) (pointI p)), .int .i64 (-1), .int .i64 420],
     nP1 [.int .i64 p],
     iP2 [I (tk 1 p 10), I (pointI p)],
     partP [I (mulI (tk 1 p 10) (pointI p)), .int .i64 (-1), .int .i64 506],
     nP1 [.int .i64 p],
     iP2 [I (tk 1 p 11), I (pointI p)],
     partP [I (mulI (tk 1 p 11) (pointI p)), .int .i64 (-1), .int .i64 600]]) := by kernel_rfl
theorem t9_1_12_leaf (p : Int) (h1 : -17179869184 ≤ p) (h2 : p ≤ 17179869184) : Gives P 30 #[.int .i64 1, .int .i64 p, .int .i64 12] (I (T9 1 p 12)) := by
  have hp : I64 p := by unfold I64; omega
  have k1 : (decide (p ≥ -17179869184)) = true := decide_eq_true (by omega)
  have k2 : (decide (p ≤ 17179869184)) = true := decide_eq_true (by omega)
  exact gives_of_run mo (t9_1_12_run p) (ps_cons k1 (ps_cons k2 (ps_cons (by unfold nP1 I64; omega) (ps_cons hp (ps_cons ⟨⟨_, rfl⟩, _, rfl⟩ (ps_cons ⟨⟨_, rfl⟩, by unfold I64; omega, by unfold I64; omega⟩ (ps_cons hp (ps_cons ⟨⟨_, rfl⟩, _, rfl⟩ (ps_cons ⟨⟨_, rfl⟩, by unfold I64; omega, by unfold I64; omega⟩ (ps_cons hp (ps_cons ⟨⟨_, rfl⟩, _, rfl⟩ (ps_cons ⟨⟨_, rfl⟩, by unfold I64; omega, by unfold I64; omega⟩ (ps_cons hp (ps_cons ⟨⟨_, rfl⟩, _, rfl⟩ (ps_cons ⟨⟨_, rfl⟩, by unfold I64; omega, by unfold I64; omega⟩ (ps_cons hp (ps_cons ⟨⟨_, rfl⟩, _, rfl⟩ (ps_cons ⟨⟨_, rfl⟩, by unfold I64; omega, by unfold I64; omega⟩ (ps_cons hp (ps_cons ⟨⟨_, rfl⟩, _, rfl⟩ (ps_cons ⟨⟨_, rfl⟩, by unfold I64; omega, by unfold I64; omega⟩ (ps_cons hp (ps_cons ⟨⟨_, rfl⟩, _, rfl⟩ (ps_cons ⟨⟨_, rfl⟩, by unfold I64; omega, by unfold I64; omega⟩ (ps_cons hp (ps_cons ⟨⟨_, rfl⟩, _, rfl⟩ (ps_cons ⟨⟨_, rfl⟩, by unfold I64; omega, by unfold I64; omega⟩ (ps_cons hp (ps_cons ⟨⟨_, rfl⟩, _, rfl⟩ (ps_cons ⟨⟨_, rfl⟩, by unfold I64; omega, by unfold I64; omega⟩ (ps_cons hp (ps_cons ⟨⟨_, rfl⟩, _, rfl⟩ (ps_cons ⟨⟨_, rfl⟩, by unfold I64; omega, by unfold I64; omega⟩ (ps_cons hp (ps_cons ⟨⟨_, rfl⟩, _, rfl⟩ (ps_cons ⟨⟨_, rfl⟩, by unfold I64; omega, by unfold I64; omega⟩ (ps_cons hp (ps_cons ⟨⟨_, rfl⟩, _, rfl⟩ (ps_cons ⟨⟨_, rfl⟩, by unfold I64; omega, by unfold I64; omega⟩ ps_nil))))))))))))))))))))))))))))))))))))))) rfl
theorem t9_1_13_run (p : Int) : runF P I0 3 30 [.int .i64 1, .int .i64 p, .int .i64 13] (.lit :: (.lit :: (.b true :: (.b true :: [])))) =
  some (I (tk 1 p 13),
    [(decide (p ≥ -17179869184)) = true,
     (decide (p ≤ 17179869184)) = true,
     nP1 [.int .i64 1],
     nP1 [.int .i64 p],
     iP2 [I (ofI 1), I (pointI p)],
     partP [I (mulI (tk 1 p 0) (pointI p)), .int .i64 (-1), .int .i64 6],
     nP1 [.int .i64 p],
     iP2 [I (tk 1 p 1), I (pointI p)],
     partP [I (mulI (tk 1 p 1) (pointI p)), .int .i64 (-1), .int .i64 20],
     nP1 [.int .i64 p],
     iP2 [I (tk 1 p 2), I (pointI p)],
     partP [I (mulI (tk 1 p 2) (pointI p)), .int .i64 (-1), .int .i64 42],
     nP1 [.int .i64 p],
     iP2 [I (tk 1 p 3), I (pointI p)],
     partP [I (mulI (tk 1 p 3) (pointI p)), .int .i64 (-1), .int .i64 72],
     nP1 [.int .i64 p],
     iP2 [I (tk 1 p 4), I (pointI p)],
     partP [I (mulI (tk 1 p 4) (pointI p)), .int .i64 (-1), .int .i64 110],
     nP1 [.int .i64 p],
     iP2 [I (tk 1 p 5), I (pointI p)],
     partP [I (mulI (tk 1 p 5) (pointI p)), .int .i64 (-1), .int .i64 156],
     nP1 [.int .i64 p],
     iP2 [I (tk 1 p 6), I (pointI p)],
     partP [I (mulI (tk 1 p 6) (pointI p)), .int .i64 (-1), .int .i64 210],
     nP1 [.int .i64 p],
     iP2 [I (tk 1 p 7), I (pointI p)],
     partP [I (mulI (tk 1 p 7) (pointI p)), .int .i64 (-1), .int .i64 272],
     nP1 [.int .i64 p],
     iP2 [I (tk 1 p 8), I (pointI p)],
     partP [I (mulI (tk 1 p 8) (pointI p)), .int .i64 (-1), .int .i64 342],
     nP1 [.int .i64 p],
     iP2 [I (tk 1 p 9), I (pointI p)],
     partP [I (mulI (tk 1 p 9) (pointI p)), .int .i64 (-1), .int .i64 420],
     nP1 [.int .i64 p],
     iP2 [I (tk 1 p 10), I (pointI p)],
     partP [I (mulI (tk 1 p 10) (pointI p)), .int .i64 (-1), .int .i64 506],
     nP1 [.int .i64 p],
     iP2 [I (tk 1 p 11), I (pointI p)],
     partP [I (mulI (tk 1 p 11) (pointI p)), .int .i64 (-1), .int .i64 600],
     nP1 [.int .i64 p],
     iP2 [I (tk 1 p 12), I (pointI p)],
     partP [I (mulI (tk 1 p 12) (pointI p)), .int .i64 (-1), .int .i64 702]]) := by kernel_rfl
theorem t9_1_13_leaf (p : Int) (h1 : -17179869184 ≤ p) (h2 : p ≤ 17179869184) : Gives P 30 #[.int .i64 1, .int .i64 p, .int .i64 13] (I (T9 1 p 13)) := by
  have hp : I64 p := by unfold I64; omega
  have k1 : (decide (p ≥ -17179869184)) = true := decide_eq_true (by omega)
  have k2 : (decide (p ≤ 17179869184)) = true := decide_eq_true (by omega)
  exact gives_of_run mo (t9_1_13_run p) (ps_cons k1 (ps_cons k2 (ps_cons (by unfold nP1 I64; omega) (ps_cons hp (ps_cons ⟨⟨_, rfl⟩, _, rfl⟩ (ps_cons ⟨⟨_, rfl⟩, by unfold I64; omega, by unfold I64; omega⟩ (ps_cons hp (ps_cons ⟨⟨_, rfl⟩, _, rfl⟩ (ps_cons ⟨⟨_, rfl⟩, by unfold I64; omega, by unfold I64; omega⟩ (ps_cons hp (ps_cons ⟨⟨_, rfl⟩, _, rfl⟩ (ps_cons ⟨⟨_, rfl⟩, by unfold I64; omega, by unfold I64; omega⟩ (ps_cons hp (ps_cons ⟨⟨_, rfl⟩, _, rfl⟩ (ps_cons ⟨⟨_, rfl⟩, by unfold I64; omega, by unfold I64; omega⟩ (ps_cons hp (ps_cons ⟨⟨_, rfl⟩, _, rfl⟩ (ps_cons ⟨⟨_, rfl⟩, by unfold I64; omega, by unfold I64; omega⟩ (ps_cons hp (ps_cons ⟨⟨_, rfl⟩, _, rfl⟩ (ps_cons ⟨⟨_, rfl⟩, by unfold I64; omega, by unfold I64; omega⟩ (ps_cons hp (ps_cons ⟨⟨_, rfl⟩, _, rfl⟩ (ps_cons ⟨⟨_, rfl⟩, by unfold I64; omega, by unfold I64; omega⟩ (ps_cons hp (ps_cons ⟨⟨_, rfl⟩, _, rfl⟩ (ps_cons ⟨⟨_, rfl⟩, by unfold I64; omega, by unfold I64; omega⟩ (ps_cons hp (ps_cons ⟨⟨_, rfl⟩, _, rfl⟩ (ps_cons ⟨⟨_, rfl⟩, by unfold I64; omega, by unfold I64; omega⟩ (ps_cons hp (ps_cons ⟨⟨_, rfl⟩, _, rfl⟩ (ps_cons ⟨⟨_, rfl⟩, by unfold I64; omega, by unfold I64; omega⟩ (ps_cons hp (ps_cons ⟨⟨_, rfl⟩, _, rfl⟩ (ps_cons ⟨⟨_, rfl⟩, by unfold I64; omega, by unfold I64; omega⟩ (ps_cons hp (ps_cons ⟨⟨_, rfl⟩, _, rfl⟩ (ps_cons ⟨⟨_, rfl⟩, by unfold I64; omega, by unfold I64; omega⟩ (ps_cons hp (ps_cons ⟨⟨_, rfl⟩, _, rfl⟩ (ps_cons ⟨⟨_, rfl⟩, by unfold I64; omega, by unfold I64; omega⟩ ps_nil)))))))))))))))))))))))))))))))))))))))))) rfl
theorem t9_1_14_run (p : Int) : runF P I0 3 30 [.int .i64 1, .int .i64 p, .int .i64 14] (.lit :: (.lit :: (.b true :: (.b true :: [])))) =
  some (I (tk 1 p 14),
    [(decide (p ≥ -17179869184)) = true,
     (decide (p ≤ 17179869184)) = true,
     nP1 [.int .i64 1],
     nP1 [.int .i64 p],
     iP2 [I (ofI 1), I (pointI p)],
     partP [I (mulI (tk 1 p 0) (pointI p)), .int .i64 (-1), .int .i64 6],
     nP1 [.int .i64 p],
     iP2 [I (tk 1 p 1), I (pointI p)],
     partP [I (mulI (tk 1 p 1) (pointI p)), .int .i64 (-1), .int .i64 20],
     nP1 [.int .i64 p],
     iP2 [I (tk 1 p 2), I (pointI p)],
     partP [I (mulI (tk 1 p 2) (pointI p)), .int .i64 (-1), .int .i64 42],
     nP1 [.int .i64 p],
     iP2 [I (tk 1 p 3), I (pointI p)],
     partP [I (mulI (tk 1 p 3) (pointI p)), .int .i64 (-1), .int .i64 72],
     nP1 [.int .i64 p],
     iP2 [I (tk 1 p 4), I (pointI p)],
     partP [I (mulI (tk 1 p 4) (pointI p)), .int .i64 (-1), .int .i64 110],
     nP1 [.int .i64 p],
     iP2 [I (tk 1 p 5), I (pointI p)],
     partP [I (mulI (tk 1 p 5) (pointI p)), .int .i64 (-1), .int .i64 156],
     nP1 [.int .i64 p],
     iP2 [I (tk 1 p 6), I (pointI p)],
     partP [I (mulI (tk 1 p 6) (pointI p)), .int .i64 (-1), .int .i64 210],
     nP1 [.int .i64 p],
     iP2 [I (tk 1 p 7), I (pointI p)],
     partP [I (mulI (tk 1 p 7) (pointI p)), .int .i64 (-1), .int .i64 272],
     nP1 [.int .i64 p],
     iP2 [I (tk 1 p 8), I (pointI p)],
     partP [I (mulI (tk 1 p 8) (pointI p)), .int .i64 (-1), .int .i64 342],
     nP1 [.int .i64 p],
     iP2 [I (tk 1 p 9), I (pointI p)],
     partP [I (mulI (tk 1 p 9) (pointI p)), .int .i64 (-1), .int .i64 420],
     nP1 [.int .i64 p],
     iP2 [I (tk 1 p 10), I (pointI p)],
     partP [I (mulI (tk 1 p 10) (pointI p)), .int .i64 (-1), .int .i64 506],
     nP1 [.int .i64 p],
     iP2 [I (tk 1 p 11), I (pointI p)],
     partP [I (mulI (tk 1 p 11) (pointI p)), .int .i64 (-1), .int .i64 600],
     nP1 [.int .i64 p],
     iP2 [I (tk 1 p 12), I (pointI p)],
     partP [I (mulI (tk 1 p 12) (pointI p)), .int .i64 (-1), .int .i64 702],
     nP1 [.int .i64 p],
     iP2 [I (tk 1 p 13), I (pointI p)],
     partP [I (mulI (tk 1 p 13) (pointI p)), .int .i64 (-1), .int .i64 812]]) := by kernel_rfl
theorem t9_1_14_leaf (p : Int) (h1 : -17179869184 ≤ p) (h2 : p ≤ 17179869184) : Gives P 30 #[.int .i64 1, .int .i64 p, .int .i64 14] (I (T9 1 p 14)) := by
  have hp : I64 p := by unfold I64; omega
  have k1 : (decide (p ≥ -17179869184)) = true := decide_eq_true (by omega)
  have k2 : (decide (p ≤ 17179869184)) = true := decide_eq_true (by omega)
  exact gives_of_run mo (t9_1_14_run p) (ps_cons k1 (ps_cons k2 (ps_cons (by unfold nP1 I64; omega) (ps_cons hp (ps_cons ⟨⟨_, rfl⟩, _, rfl⟩ (ps_cons ⟨⟨_, rfl⟩, by unfold I64; omega, by unfold I64; omega⟩ (ps_cons hp (ps_cons ⟨⟨_, rfl⟩, _, rfl⟩ (ps_cons ⟨⟨_, rfl⟩, by unfold I64; omega, by unfold I64; omega⟩ (ps_cons hp (ps_cons ⟨⟨_, rfl⟩, _, rfl⟩ (ps_cons ⟨⟨_, rfl⟩, by unfold I64; omega, by unfold I64; omega⟩ (ps_cons hp (ps_cons ⟨⟨_, rfl⟩, _, rfl⟩ (ps_cons ⟨⟨_, rfl⟩, by unfold I64; omega, by unfold I64; omega⟩ (ps_cons hp (ps_cons ⟨⟨_, rfl⟩, _, rfl⟩ (ps_cons ⟨⟨_, rfl⟩, by unfold I64; omega, by unfold I64; omega⟩ (ps_cons hp (ps_cons ⟨⟨_, rfl⟩, _, rfl⟩ (ps_cons ⟨⟨_, rfl⟩, by unfold I64; omega, by unfold I64; omega⟩ (ps_cons hp (ps_cons ⟨⟨_, rfl⟩, _, rfl⟩ (ps_cons ⟨⟨_, rfl⟩, by unfold I64; omega, by unfold I64; omega⟩ (ps_cons hp (ps_cons ⟨⟨_, rfl⟩, _, rfl⟩ (ps_cons ⟨⟨_, rfl⟩, by unfold I64; omega, by unfold I64; omega⟩ (ps_cons hp (ps_cons ⟨⟨_, rfl⟩, _, rfl⟩ (ps_cons ⟨⟨_, rfl⟩, by unfold I64; omega, by unfold I64; omega⟩ (ps_cons hp (ps_cons ⟨⟨_, rfl⟩, _, rfl⟩ (ps_cons ⟨⟨_, rfl⟩, by unfold I64; omega, by unfold I64; omega⟩ (ps_cons hp (ps_cons ⟨⟨_, rfl⟩, _, rfl⟩ (ps_cons ⟨⟨_, rfl⟩, by unfold I64; omega, by unfold I64; omega⟩ (ps_cons hp (ps_cons ⟨⟨_, rfl⟩, _, rfl⟩ (ps_cons ⟨⟨_, rfl⟩, by unfold I64; omega, by unfold I64; omega⟩ (ps_cons hp (ps_cons ⟨⟨_, rfl⟩, _, rfl⟩ (ps_cons ⟨⟨_, rfl⟩, by unfold I64; omega, by unfold I64; omega⟩ (ps_cons hp (ps_cons ⟨⟨_, rfl⟩, _, rfl⟩ (ps_cons ⟨⟨_, rfl⟩, by unfold I64; omega, by unfold I64; omega⟩ ps_nil))))))))))))))))))))))))))))))))))))))))))))) rfl
theorem t9_1_15_run (p : Int) : runF P I0 2 30 [.int .i64 1, .int .i64 p, .int .i64 15] (.lit :: (.lit :: (.b true :: (.b true :: [])))) =
  some (I (⟨0, 0, true⟩),
    [(decide (p ≥ -17179869184)) = true,
     (decide (p ≤ 17179869184)) = true]) := by kernel_rfl
theorem t9_1_15_leaf (p : Int) (h1 : -17179869184 ≤ p) (h2 : p ≤ 17179869184) : Gives P 30 #[.int .i64 1, .int .i64 p, .int .i64 15] (I (T9 1 p 15)) := by
  have hp : I64 p := by unfold I64; omega
  have k1 : (decide (p ≥ -17179869184)) = true := decide_eq_true (by omega)
  have k2 : (decide (p ≤ 17179869184)) = true := decide_eq_true (by omega)
  exact gives_of_run mo (t9_1_15_run p) (ps_cons k1 (ps_cons k2 ps_nil)) rfl
theorem t9_2_0_run (p : Int) : runF P I0 4 30 [.int .i64 2, .int .i64 p, .int .i64 0] (.lit :: (.lit :: (.b true :: (.b true :: [])))) =
  some (I (partI (ofI 1) 1 2),
    [(decide (p ≥ -17179869184)) = true,
     (decide (p ≤ 17179869184)) = true,
     nP1 [.int .i64 1],
     partP [I (ofI 1), .int .i64 1, .int .i64 2]]) := by kernel_rfl
theorem t9_2_0_leaf (p : Int) (h1 : -17179869184 ≤ p) (h2 : p ≤ 17179869184) : Gives P 30 #[.int .i64 2, .int .i64 p, .int .i64 0] (I (T9 2 p 0)) := by
  have hp : I64 p := by unfold I64; omega
  have k1 : (decide (p ≥ -17179869184)) = true := decide_eq_true (by omega)
  have k2 : (decide (p ≤ 17179869184)) = true := decide_eq_true (by omega)
  exact gives_of_run mo (t9_2_0_run p) (ps_cons k1 (ps_cons k2 (ps_cons (by unfold nP1 I64; omega) (ps_cons ⟨⟨_, rfl⟩, by unfold I64; omega, by unfold I64; omega⟩ ps_nil)))) rfl
theorem t9_2_1_run (p : Int) : runF P I0 4 30 [.int .i64 2, .int .i64 p, .int .i64 1] (.lit :: (.lit :: (.b true :: (.b true :: [])))) =
  some (I (tk 2 p 1),
    [(decide (p ≥ -17179869184)) = true,
     (decide (p ≤ 17179869184)) = true,
     nP1 [.int .i64 1],
     partP [I (ofI 1), .int .i64 1, .int .i64 2],
     nP1 [.int .i64 p],
     iP2 [I (partI (ofI 1) 1 2), I (pointI p)],
     partP [I (mulI (tk 2 p 0) (pointI p)), .int .i64 (-1), .int .i64 12]]) := by kernel_rfl
theorem t9_2_1_leaf (p : Int) (h1 : -17179869184 ≤ p) (h2 : p ≤ 17179869184) : Gives P 30 #[.int .i64 2, .int .i64 p, .int .i64 1] (I (T9 2 p 1)) := by
  have hp : I64 p := by unfold I64; omega
  have k1 : (decide (p ≥ -17179869184)) = true := decide_eq_true (by omega)
  have k2 : (decide (p ≤ 17179869184)) = true := decide_eq_true (by omega)
  exact gives_of_run mo (t9_2_1_run p) (ps_cons k1 (ps_cons k2 (ps_cons (by unfold nP1 I64; omega) (ps_cons ⟨⟨_, rfl⟩, by unfold I64; omega, by unfold I64; omega⟩ (ps_cons hp (ps_cons ⟨⟨_, rfl⟩, _, rfl⟩ (ps_cons ⟨⟨_, rfl⟩, by unfold I64; omega, by unfold I64; omega⟩ ps_nil))))))) rfl
theorem t9_2_2_run (p : Int) : runF P I0 4 30 [.int .i64 2, .int .i64 p, .int .i64 2] (.lit :: (.lit :: (.b true :: (.b true :: [])))) =
  some (I (tk 2 p 2),
    [(decide (p ≥ -17179869184)) = true,
     (decide (p ≤ 17179869184)) = true,
     nP1 [.int .i64 1],
     partP [I (ofI 1), .int .i64 1, .int .i64 2],
     nP1 [.int .i64 p],
     iP2 [I (partI (ofI 1) 1 2), I (pointI p)],
     partP [I (mulI (tk 2 p 0) (pointI p)), .int .i64 (-1), .int .i64 12],
     nP1 [.int .i64 p],
     iP2 [I (tk 2 p 1), I (pointI p)],
     partP [I (mulI (tk 2 p 1) (pointI p)), .int .i64 (-1), .int .i64 30]]) := by kernel_rfl
theorem t9_2_2_leaf (p : Int) (h1 : -17179869184 ≤ p) (h2 : p ≤ 17179869184) : Gives P 30 #[.int .i64 2, .int .i64 p, .int .i64 2] (I (T9 2 p 2)) := by
  have hp : I64 p := by unfold I64; omega
  have k1 : (decide (p ≥ -17179869184)) = true := decide_eq_true (by omega)
  have k2 : (decide (p ≤ 17179869184)) = true := decide_eq_true (by omega)
  exact gives_of_run mo (t9_2_2_run p) (ps_cons k1 (ps_cons k2 (ps_cons (by unfold nP1 I64; omega) (ps_cons ⟨⟨_, rfl⟩, by unfold I64; omega, by unfold I64; omega⟩ (ps_cons hp (ps_cons ⟨⟨_, rfl⟩, _, rfl⟩ (ps_cons ⟨⟨_, rfl⟩, by unfold I64; omega, by unfold I64; omega⟩ (ps_cons hp (ps_cons ⟨⟨_, rfl⟩, _, rfl⟩ (ps_cons ⟨⟨_, rfl⟩, by unfold I64; omega, by unfold I64; omega⟩ ps_nil)))))))))) rfl
theorem t9_2_3_run (p : Int) : runF P I0 4 30 [.int .i64 2, .int .i64 p, .int .i64 3] (.lit :: (.lit :: (.b true :: (.b true :: [])))) =
  some (I (tk 2 p 3),
    [(decide (p ≥ -17179869184)) = true,
     (decide (p ≤ 17179869184)) = true,
     nP1 [.int .i64 1],
     partP [I (ofI 1), .int .i64 1, .int .i64 2],
     nP1 [.int .i64 p],
     iP2 [I (partI (ofI 1) 1 2), I (pointI p)],
     partP [I (mulI (tk 2 p 0) (pointI p)), .int .i64 (-1), .int .i64 12],
     nP1 [.int .i64 p],
     iP2 [I (tk 2 p 1), I (pointI p)],
     partP [I (mulI (tk 2 p 1) (pointI p)), .int .i64 (-1), .int .i64 30],
     nP1 [.int .i64 p],
     iP2 [I (tk 2 p 2), I (pointI p)],
     partP [I (mulI (tk 2 p 2) (pointI p)), .int .i64 (-1), .int .i64 56]]) := by kernel_rfl
theorem t9_2_3_leaf (p : Int) (h1 : -17179869184 ≤ p) (h2 : p ≤ 17179869184) : Gives P 30 #[.int .i64 2, .int .i64 p, .int .i64 3] (I (T9 2 p 3)) := by
  have hp : I64 p := by unfold I64; omega
  have k1 : (decide (p ≥ -17179869184)) = true := decide_eq_true (by omega)
  have k2 : (decide (p ≤ 17179869184)) = true := decide_eq_true (by omega)
  exact gives_of_run mo (t9_2_3_run p) (ps_cons k1 (ps_cons k2 (ps_cons (by unfold nP1 I64; omega) (ps_cons ⟨⟨_, rfl⟩, by unfold I64; omega, by unfold I64; omega⟩ (ps_cons hp (ps_cons ⟨⟨_, rfl⟩, _, rfl⟩ (ps_cons ⟨⟨_, rfl⟩, by unfold I64; omega, by unfold I64; omega⟩ (ps_cons hp (ps_cons ⟨⟨_, rfl⟩, _, rfl⟩ (ps_cons ⟨⟨_, rfl⟩, by unfold I64; omega, by unfold I64; omega⟩ (ps_cons hp (ps_cons ⟨⟨_, rfl⟩, _, rfl⟩ (ps_cons ⟨⟨_, rfl⟩, by unfold I64; omega, by unfold I64; omega⟩ ps_nil))))))))))))) rfl
theorem t9_2_4_run (p : Int) : runF P I0 4 30 [.int .i64 2, .int .i64 p, .int .i64 4] (.lit :: (.lit :: (.b true :: (.b true :: [])))) =
  some (I (tk 2 p 4),
    [(decide (p ≥ -17179869184)) = true,
     (decide (p ≤ 17179869184)) = true,
     nP1 [.int .i64 1],
     partP [I (ofI 1), .int .i64 1, .int .i64 2],
     nP1 [.int .i64 p],
     iP2 [I (partI (ofI 1) 1 2), I (pointI p)],
     partP [I (mulI (tk 2 p 0) (pointI p)), .int .i64 (-1), .int .i64 12],
     nP1 [.int .i64 p],
     iP2 [I (tk 2 p 1), I (pointI p)],
     partP [I (mulI (tk 2 p 1) (pointI p)), .int .i64 (-1), .int .i64 30],
     nP1 [.int .i64 p],
     iP2 [I (tk 2 p 2), I (pointI p)],
     partP [I (mulI (tk 2 p 2) (pointI p)), .int .i64 (-1), .int .i64 56],
     nP1 [.int .i64 p],
     iP2 [I (tk 2 p 3), I (pointI p)],
     partP [I (mulI (tk 2 p 3) (pointI p)), .int .i64 (-1), .int .i64 90]]) := by kernel_rfl
theorem t9_2_4_leaf (p : Int) (h1 : -17179869184 ≤ p) (h2 : p ≤ 17179869184) : Gives P 30 #[.int .i64 2, .int .i64 p, .int .i64 4] (I (T9 2 p 4)) := by
  have hp : I64 p := by unfold I64; omega
  have k1 : (decide (p ≥ -17179869184)) = true := decide_eq_true (by omega)
  have k2 : (decide (p ≤ 17179869184)) = true := decide_eq_true (by omega)
  exact gives_of_run mo (t9_2_4_run p) (ps_cons k1 (ps_cons k2 (ps_cons (by unfold nP1 I64; omega) (ps_cons ⟨⟨_, rfl⟩, by unfold I64; omega, by unfold I64; omega⟩ (ps_cons hp (ps_cons ⟨⟨_, rfl⟩, _, rfl⟩ (ps_cons ⟨⟨_, rfl⟩, by unfold I64; omega, by unfold I64; omega⟩ (ps_cons hp (ps_cons ⟨⟨_, rfl⟩, _, rfl⟩ (ps_cons ⟨⟨_, rfl⟩, by unfold I64; omega, by unfold I64; omega⟩ (ps_cons hp (ps_cons ⟨⟨_, rfl⟩, _, rfl⟩ (ps_cons ⟨⟨_, rfl⟩, by unfold I64; omega, by unfold I64; omega⟩ (ps_cons hp (ps_cons ⟨⟨_, rfl⟩, _, rfl⟩ (ps_cons ⟨⟨_, rfl⟩, by unfold I64; omega, by unfold I64; omega⟩ ps_nil)))))))))))))))) rfl
theorem t9_2_5_run (p : Int) : runF P I0 4 30 [.int .i64 2, .int .i64 p, .int .i64 5] (.lit :: (.lit :: (.b true :: (.b true :: [])))) =
  some (I (tk 2 p 5),
    [(decide (p ≥ -17179869184)) = true,
     (decide (p ≤ 17179869184)) = true,
     nP1 [.int .i64 1],
     partP [I (ofI 1), .int .i64 1, .int .i64 2],
     nP1 [.int .i64 p],
     iP2 [I (partI (ofI 1) 1 2), I (pointI p)],
     partP [I (mulI (tk 2 p 0) (pointI p)), .int .i64 (-1), .int .i64 12],
     nP1 [.int .i64 p],
     iP2 [I (tk 2 p 1), I (pointI p)],
     partP [I (mulI (tk 2 p 1) (pointI p)), .int .i64 (-1), .int .i64 30],
     nP1 [.int .i64 p],
     iP2 [I (tk 2 p 2), I (pointI p)],
     partP [I (mulI (tk 2 p 2) (pointI p)), .int .i64 (-1), .int .i64 56],
     nP1 [.int .i64 p],
     iP2 [I (tk 2 p 3), I (pointI p)],
     partP [I (mulI (tk 2 p 3) (pointI p)), .int .i64 (-1), .int .i64 90],
     nP1 [.int .i64 p],
     iP2 [I (tk 2 p 4), I (pointI p)],
     partP [I (mulI (tk 2 p 4) (pointI p)), .int .i64 (-1), .int .i64 132]]) := by kernel_rfl
theorem t9_2_5_leaf (p : Int) (h1 : -17179869184 ≤ p) (h2 : p ≤ 17179869184) : Gives P 30 #[.int .i64 2, .int .i64 p, .int .i64 5] (I (T9 2 p 5)) := by
  have hp : I64 p := by unfold I64; omega
  have k1 : (decide (p ≥ -17179869184)) = true := decide_eq_true (by omega)
  have k2 : (decide (p ≤ 17179869184)) = true := decide_eq_true (by omega)
  exact gives_of_run mo (t9_2_5_run p) (ps_cons k1 (ps_cons k2 (ps_cons (by unfold nP1 I64; omega) (ps_cons ⟨⟨_, rfl⟩, by unfold I64; omega, by unfold I64; omega⟩ (ps_cons hp (ps_cons ⟨⟨_, rfl⟩, _, rfl⟩ (ps_cons ⟨⟨_, rfl⟩, by unfold I64; omega, by unfold I64; omega⟩ (ps_cons hp (ps_cons ⟨⟨_, rfl⟩, _, rfl⟩ (ps_cons ⟨⟨_, rfl⟩, by unfold I64; omega, by unfold I64; omega⟩ (ps_cons hp (ps_cons ⟨⟨_, rfl⟩, _, rfl⟩ (ps_cons ⟨⟨_, rfl⟩, by unfold I64; omega, by unfold I64; omega⟩ (ps_cons hp (ps_cons ⟨⟨_, rfl⟩, _, rfl⟩ (ps_cons ⟨⟨_, rfl⟩, by unfold I64; omega, by unfold I64; omega⟩ (ps_cons hp (ps_cons ⟨⟨_, rfl⟩, _, rfl⟩ (ps_cons ⟨⟨_, rfl⟩, by unfold I64; omega, by unfold I64; omega⟩ ps_nil))))))))))))))))))) rfl
theorem t9_2_6_run (p : Int) : runF P I0 4 30 [.int .i64 2, .int .i64 p, .int .i64 6] (.lit :: (.lit :: (.b true :: (.b true :: [])))) =
  some (I (tk 2 p 6),
    [(decide (p ≥ -17179869184)) = true,
     (decide (p ≤ 17179869184)) = true,
     nP1 [.int .i64 1],
     partP [I (ofI 1), .int .i64 1, .int .i64 2],
     nP1 [.int .i64 p],
     iP2 [I (partI (ofI 1) 1 2), I (pointI p)],
     partP [I (mulI (tk 2 p 0) (pointI p)), .int .i64 (-1), .int .i64 12],
     nP1 [.int .i64 p],
     iP2 [I (tk 2 p 1), I (pointI p)],
     partP [I (mulI (tk 2 p 1) (pointI p)), .int .i64 (-1), .int .i64 30],
     nP1 [.int .i64 p],
     iP2 [I (tk 2 p 2), I (pointI p)],
     partP [I (mulI (tk 2 p 2) (pointI p)), .int .i64 (-1), .int .i64 56],
     nP1 [.int .i64 p],
     iP2 [I (tk 2 p 3), I (pointI p)],
     partP [I (mulI (tk 2 p 3) (pointI p)), .int .i64 (-1), .int .i64 90],
     nP1 [.int .i64 p],
     iP2 [I (tk 2 p 4), I (pointI p)],
     partP [I (mulI (tk 2 p 4) (pointI p)), .int .i64 (-1), .int .i64 132],
     nP1 [.int .i64 p],
     iP2 [I (tk 2 p 5), I (pointI p)],
     partP [I (mulI (tk 2 p 5) (pointI p)), .int .i64 (-1), .int .i64 182]]) := by kernel_rfl
theorem t9_2_6_leaf (p : Int) (h1 : -17179869184 ≤ p) (h2 : p ≤ 17179869184) : Gives P 30 #[.int .i64 2, .int .i64 p, .int .i64 6] (I (T9 2 p 6)) := by
  have hp : I64 p := by unfold I64; omega
  have k1 : (decide (p ≥ -17179869184)) = true := decide_eq_true (by omega)
  have k2 : (decide (p ≤ 17179869184)) = true := decide_eq_true (by omega)
  exact gives_of_run mo (t9_2_6_run p) (ps_cons k1 (ps_cons k2 (ps_cons (by unfold nP1 I64; omega) (ps_cons ⟨⟨_, rfl⟩, by unfold I64; omega, by unfold I64; omega⟩ (ps_cons hp (ps_cons ⟨⟨_, rfl⟩, _, rfl⟩ (ps_cons ⟨⟨_, rfl⟩, by unfold I64; omega, by unfold I64; omega⟩ (ps_cons hp (ps_cons ⟨⟨_, rfl⟩, _, rfl⟩ (ps_cons ⟨⟨_, rfl⟩, by unfold I64; omega, by unfold I64; omega⟩ (ps_cons hp (ps_cons ⟨⟨_, rfl⟩, _, rfl⟩ (ps_cons ⟨⟨_, rfl⟩, by unfold I64; omega, by unfold I64; omega⟩ (ps_cons hp (ps_cons ⟨⟨_, rfl⟩, _, rfl⟩ (ps_cons ⟨⟨_, rfl⟩, by unfold I64; omega, by unfold I64; omega⟩ (ps_cons hp (ps_cons ⟨⟨_, rfl⟩, _, rfl⟩ (ps_cons ⟨⟨_, rfl⟩, by unfold I64; omega, by unfold I64; omega⟩ (ps_cons hp (ps_cons ⟨⟨_, rfl⟩, _, rfl⟩ (ps_cons ⟨⟨_, rfl⟩, by unfold I64; omega, by unfold I64; omega⟩ ps_nil)))))))))))))))))))))) rfl
theorem t9_2_7_run (p : Int) : runF P I0 4 30 [.int .i64 2, .int .i64 p, .int .i64 7] (.lit :: (.lit :: (.b true :: (.b true :: [])))) =
  some (I (tk 2 p 7),
    [(decide (p ≥ -17179869184)) = true,
     (decide (p ≤ 17179869184)) = true,
     nP1 [.int .i64 1],
     partP [I (ofI 1), .int .i64 1, .int .i64 2],
     nP1 [.int .i64 p],
     iP2 [I (partI (ofI 1) 1 2), I (pointI p)],
     partP [I (mulI (tk 2 p 0) (pointI p)), .int .i64 (-1), .int .i64 12],
     nP1 [.int .i64 p],
     iP2 [I (tk 2 p 1), I (pointI p)],
     partP [I (mulI (tk 2 p 1) (pointI p)), .int .i64 (-1), .int .i64 30],
     nP1 [.int .i64 p],
     iP2 [I (tk 2 p 2), I (pointI p)],
     partP [I (mulI (tk 2 p 2) (pointI p)), .int .i64 (-1), .int .i64 56],
     nP1 [.int .i64 p],
     iP2 [I (tk 2 p 3), I (pointI p)],
     partP [I (mulI (tk 2 p 3) (pointI p)), .int .i64 (-1), .int .i64 90],
     nP1 [.int .i64 p],
     iP2 [I (tk 2 p 4), I (pointI p)],
     partP [I (mulI (tk 2 p 4) (pointI p)), .int .i64 (-1), .int .i64 132],
     nP1 [.int .i64 p],
     iP2 [I (tk 2 p 5), I (pointI p)],
     partP [I (mulI (tk 2 p 5) (pointI p)), .int .i64 (-1), .int .i64 182],
     nP1 [.int .i64 p],
     iP2 [I (tk 2 p 6), I (pointI p)],
     partP [I (mulI (tk 2 p 6) (pointI p)), .int .i64 (-1), .int .i64 240]]) := by kernel_rfl
theorem t9_2_7_leaf (p : Int) (h1 : -17179869184 ≤ p) (h2 : p ≤ 17179869184) : Gives P 30 #[.int .i64 2, .int .i64 p, .int .i64 7] (I (T9 2 p 7)) := by
  have hp : I64 p := by unfold I64; omega
  have k1 : (decide (p ≥ -17179869184)) = true := decide_eq_true (by omega)
  have k2 : (decide (p ≤ 17179869184)) = true := decide_eq_true (by omega)
  exact gives_of_run mo (t9_2_7_run p) (ps_cons k1 (ps_cons k2 (ps_cons (by unfold nP1 I64; omega) (ps_cons ⟨⟨_, rfl⟩, by unfold I64; omega, by unfold I64; omega⟩ (ps_cons hp (ps_cons ⟨⟨_, rfl⟩, _, rfl⟩ (ps_cons ⟨⟨_, rfl⟩, by unfold I64; omega, by unfold I64; omega⟩ (ps_cons hp (ps_cons ⟨⟨_, rfl⟩, _, rfl⟩ (ps_cons ⟨⟨_, rfl⟩, by unfold I64; omega, by unfold I64; omega⟩ (ps_cons hp (ps_cons ⟨⟨_, rfl⟩, _, rfl⟩ (ps_cons ⟨⟨_, rfl⟩, by unfold I64; omega, by unfold I64; omega⟩ (ps_cons hp (ps_cons ⟨⟨_, rfl⟩, _, rfl⟩ (ps_cons ⟨⟨_, rfl⟩, by unfold I64; omega, by unfold I64; omega⟩ (ps_cons hp (ps_cons ⟨⟨_, rfl⟩, _, rfl⟩ (ps_cons ⟨⟨_, rfl⟩, by unfold I64; omega, by unfold I64; omega⟩ (ps_cons hp (ps_cons ⟨⟨_, rfl⟩, _, rfl⟩ (ps_cons ⟨⟨_, rfl⟩, by unfold I64; omega, by unfold I64; omega⟩ (ps_cons hp (ps_cons ⟨⟨_, rfl⟩, _, rfl⟩ (ps_cons ⟨⟨_, rfl⟩, by unfold I64; omega, by unfold I64; omega⟩ ps_nil))))))))))))))))))))))))) rfl
theorem t9_2_8_run (p : Int) : runF P I0 4 30 [.int .i64 2, .int .i64 p, .int .i64 8] (.lit :: (.lit :: (.b true :: (.b true :: [])))) =
  some (I (tk 2 p 8),
    [(decide (p ≥ -17179869184)) = true,
     (decide (p ≤ 17179869184)) = true,
     nP1 [.int .i64 1],
     partP [I (ofI 1), .int .i64 1, .int .i64 2],
     nP1 [.int .i64 p],
     iP2 [I (partI (ofI 1) 1 2), I (pointI p)],
     partP [I (mulI (tk 2 p 0) (pointI p)), .int .i64 (-1), .int .i64 12],
     nP1 [.int .i64 p],
     iP2 [I (tk 2 p 1), I (pointI p)],
     partP [I (mulI (tk 2 p 1) (pointI p)), .int .i64 (-1), .int .i64 30],
     nP1 [.int .i64 p],
     iP2 [I (tk 2 p 2), I (pointI p)],
     partP [I (mulI (tk 2 p 2) (pointI p)), .int .i64 (-1), .int .i64 56],
     nP1 [.int .i64 p],
     iP2 [I (tk 2 p 3), I (pointI p)],
     partP [I (mulI (tk 2 p 3) (pointI p)), .int .i64 (-1), .int .i64 90],
     nP1 [.int .i64 p],
     iP2 [I (tk 2 p 4), I (pointI p)],
     partP [I (mulI (tk 2 p 4) (pointI p)), .int .i64 (-1), .int .i64 132],
     nP1 [.int .i64 p],
     iP2 [I (tk 2 p 5), I (pointI p)],
     partP [I (mulI (tk 2 p 5) (pointI p)), .int .i64 (-1), .int .i64 182],
     nP1 [.int .i64 p],
     iP2 [I (tk 2 p 6), I (pointI p)],
     partP [I (mulI (tk 2 p 6) (pointI p)), .int .i64 (-1), .int .i64 240],
     nP1 [.int .i64 p],
     iP2 [I (tk 2 p 7), I (pointI p)],
     partP [I (mulI (tk 2 p 7) (pointI p)), .int .i64 (-1), .int .i64 306]]) := by kernel_rfl
theorem t9_2_8_leaf (p : Int) (h1 : -17179869184 ≤ p) (h2 : p ≤ 17179869184) : Gives P 30 #[.int .i64 2, .int .i64 p, .int .i64 8] (I (T9 2 p 8)) := by
  have hp : I64 p := by unfold I64; omega
  have k1 : (decide (p ≥ -17179869184)) = true := decide_eq_true (by omega)
  have k2 : (decide (p ≤ 17179869184)) = true := decide_eq_true (by omega)
  exact gives_of_run mo (t9_2_8_run p) (ps_cons k1 (ps_cons k2 (ps_cons (by unfold nP1 I64; omega) (ps_cons ⟨⟨_, rfl⟩, by unfold I64; omega, by unfold I64; omega⟩ (ps_cons hp (ps_cons ⟨⟨_, rfl⟩, _, rfl⟩ (ps_cons ⟨⟨_, rfl⟩, by unfold I64; omega, by unfold I64; omega⟩ (ps_cons hp (ps_cons ⟨⟨_, rfl⟩, _, rfl⟩ (ps_cons ⟨⟨_, rfl⟩, by unfold I64; omega, by unfold I64; omega⟩ (ps_cons hp (ps_cons ⟨⟨_, rfl⟩, _, rfl⟩ (ps_cons ⟨⟨_, rfl⟩, by unfold I64; omega, by unfold I64; omega⟩ (ps_cons hp (ps_cons ⟨⟨_, rfl⟩, _, rfl⟩ (ps_cons ⟨⟨_, rfl⟩, by unfold I64; omega, by unfold I64; omega⟩ (ps_cons hp (ps_cons ⟨⟨_, rfl⟩, _, rfl⟩ (ps_cons ⟨⟨_, rfl⟩, by unfold I64; omega, by unfold I64; omega⟩ (ps_cons hp (ps_cons ⟨⟨_, rfl⟩, _, rfl⟩ (ps_cons ⟨⟨_, rfl⟩, by unfold I64; omega, by unfold I64; omega⟩ (ps_cons hp (ps_cons ⟨⟨_, rfl⟩, _, rfl⟩ (ps_cons ⟨⟨_, rfl⟩, by unfold I64; omega, by unfold I64; omega⟩ (ps_cons hp (ps_cons ⟨⟨_, rfl⟩, _, rfl⟩ (ps_cons ⟨⟨_, rfl⟩, by unfold I64; omega, by unfold I64; omega⟩ ps_nil)))))))))))))))))))))))))))) rfl
theorem t9_2_9_run (p : Int) : runF P I0 4 30 [.int .i64 2, .int .i64 p, .int .i64 9] (.lit :: (.lit :: (.b true :: (.b true :: [])))) =
  some (I (tk 2 p 9),
    [(decide (p ≥ -17179869184)) = true,
     (decide (p ≤ 17179869184)) = true,
     nP1 [.int .i64 1],
     partP [I (ofI 1), .int .i64 1, .int .i64 2],
     nP1 [.int .i64 p],
     iP2 [I (partI (ofI 1) 1 2), I (pointI p)],
     partP [I (mulI (tk 2 p 0) (pointI p)), .int .i64 (-1), .int .i64 12],
     nP1 [.int .i64 p],
     iP2 [I (tk 2 p 1), I (pointI p)],
     partP [I (mulI (tk 2 p 1) (pointI p)), .int .i64 (-1), .int .i64 30],
     nP1 [.int .i64 p],
     iP2 [I (tk 2 p 2), I (pointI p)],
     partP [I (mulI (tk 2 p 2) (pointI p)), .int .i64 (-1), .int .i64 56],
     nP1 [.int .i64 p],
     iP2 [I (tk 2 p 3), I (pointI p)],
     partP [I (mulI (tk 2 p 3) (pointI p)), .int .i64 (-1), .int .i64 90],
     nP1 [.int .i64 p],
     iP2 [I (tk 2 p 4), I (pointI p)],
     partP [I (mulI (tk 2 p 4) (pointI p)), .int .i64 (-1), .int .i64 132],
     nP1 [.int .i64 p],
     iP2 [I (tk 2 p 5), I (pointI p)],
     partP [I (mulI (tk 2 p 5) (pointI p)), .int .i64 (-1), .int .i64 182],
     nP1 [.int .i64 p],
     iP2 [I (tk 2 p 6), I (pointI p)],
     partP [I (mulI (tk 2 p 6) (pointI p)), .int .i64 (-1), .int .i64 240],
     nP1 [.int .i64 p],
     iP2 [I (tk 2 p 7), I (pointI p)],
     partP [I (mulI (tk 2 p 7) (pointI p)), .int .i64 (-1), .int .i64 306],
     nP1 [.int .i64 p],
     iP2 [I (tk 2 p 8), I (pointI p)],
     partP [I (mulI (tk 2 p 8) (pointI p)), .int .i64 (-1), .int .i64 380]]) := by kernel_rfl
theorem t9_2_9_leaf (p : Int) (h1 : -17179869184 ≤ p) (h2 : p ≤ 17179869184) : Gives P 30 #[.int .i64 2, .int .i64 p, .int .i64 9] (I (T9 2 p 9)) := by
  have hp : I64 p := by unfold I64; omega
  have k1 : (decide (p ≥ -17179869184)) = true := decide_eq_true (by omega)
  have k2 : (decide (p ≤ 17179869184)) = true := decide_eq_true (by omega)
  exact gives_of_run mo (t9_2_9_run p) (ps_cons k1 (ps_cons k2 (ps_cons (by unfold nP1 I64; omega) (ps_cons ⟨⟨_, rfl⟩, by unfold I64; omega, by unfold I64; omega⟩ (ps_cons hp (ps_cons ⟨⟨_, rfl⟩, _, rfl⟩ (ps_cons ⟨⟨_, rfl⟩, by unfold I64; omega, by unfold I64; omega⟩ (ps_cons hp (ps_cons ⟨⟨_, rfl⟩, _, rfl⟩ (ps_cons ⟨⟨_, rfl⟩, by unfold I64; omega, by unfold I64; omega⟩ (ps_cons hp (ps_cons ⟨⟨_, rfl⟩, _, rfl⟩ (ps_cons ⟨⟨_, rfl⟩, by unfold I64; omega, by unfold I64; omega⟩ (ps_cons hp (ps_cons ⟨⟨_, rfl⟩, _, rfl⟩ (ps_cons ⟨⟨_, rfl⟩, by unfold I64; omega, by unfold I64; omega⟩ (ps_cons hp (ps_cons ⟨⟨_, rfl⟩, _, rfl⟩ (ps_cons ⟨⟨_, rfl⟩, by unfold I64; omega, by unfold I64; omega⟩ (ps_cons hp (ps_cons ⟨⟨_, rfl⟩, _, rfl⟩ (ps_cons ⟨⟨_, rfl⟩, by unfold I64; omega, by unfold I64; omega⟩ (ps_cons hp (ps_cons ⟨⟨_, rfl⟩, _, rfl⟩ (ps_cons ⟨⟨_, rfl⟩, by unfold I64; omega, by unfold I64; omega⟩ (ps_cons hp (ps_cons ⟨⟨_, rfl⟩, _, rfl⟩ (ps_cons ⟨⟨_, rfl⟩, by unfold I64; omega, by unfold I64; omega⟩ (ps_cons hp (ps_cons ⟨⟨_, rfl⟩, _, rfl⟩ (ps_cons ⟨⟨_, rfl⟩, by unfold I64; omega, by unfold I64; omega⟩ ps_nil))))))))))))))))))))))))))))))) rfl
theorem t9_2_10_run (p : Int) : runF P I0 4 30 [.int .i64 2, .int .i64 p, .int .i64 10] (.lit :: (.lit :: (.b true :: (.b true :: [])))) =
  some (I (tk 2 p 10),
    [(decide (p ≥ -17179869184)) = true,
     (decide (p ≤ 17179869184)) = true,
     nP1 [.int .i64 1],
     partP [I (ofI 1), .int .i64 1, .int .i64 2],
     nP1 [.int .i64 p],
     iP2 [I (partI (ofI 1) 1 2), I (pointI p)],
     partP [I (mulI (tk 2 p 0) (pointI p)), .int .i64 (-1), .int .i64 12],
     nP1 [.int .i64 p],
     iP2 [I (tk 2 p 1), I (pointI p)],
     partP [I (mulI (tk 2 p 1) (pointI p)), .int .i64 (-1), .int .i64 30],
     nP1 [.int .i64 p],
     iP2 [I (tk 2 p 2), I (pointI p)],
     partP [I (mulI (tk 2 p 2) (pointI p)), .int .i64 (-1), .int .i64 56],
     nP1 [.int .i64 p],
     iP2 [I (tk 2 p 3), I (pointI p)],
     partP [I (mulI (tk 2 p 3) (pointI p)), .int .i64 (-1), .int .i64 90],
     nP1 [.int .i64 p],
     iP2 [I (tk 2 p 4), I (pointI p)],
     partP [I (mulI (tk 2 p 4) (pointI p)), .int .i64 (-1), .int .i64 132],
     nP1 [.int .i64 p],
     iP2 [I (tk 2 p 5), I (pointI p)],
     partP [I (mulI (tk 2 p 5) (pointI p)), .int .i64 (-1), .int .i64 182],
     nP1 [.int .i64 p],
     iP2 [I (tk 2 p 6), I (pointI p)],
     partP [I (mulI (tk 2 p 6) (pointI p)), .int .i64 (-1), .int .i64 240],
     nP1 [.int .i64 p],
     iP2 [I (tk 2 p 7), I (pointI p)],
     partP [I (mulI (tk 2 p 7) (pointI p)), .int .i64 (-1), .int .i64 306],
     nP1 [.int .i64 p],
     iP2 [I (tk 2 p 8), I (pointI p)],
     partP [I (mulI (tk 2 p 8) (pointI p)), .int .i64 (-1), .int .i64 380],
     nP1 [.int .i64 p],
     iP2 [I (tk 2 p 9), I (pointI p)],
     partP [I (mulI (tk 2 p 9) (pointI p)), .int .i64 (-1), .int .i64 462]]) := by kernel_rfl
theorem t9_2_10_leaf (p : Int) (h1 : -17179869184 ≤ p) (h2 : p ≤ 17179869184) : Gives P 30 #[.int .i64 2, .int .i64 p, .int .i64 10] (I (T9 2 p 10)) := by
  have hp : I64 p := by unfold I64; omega
  have k1 : (decide (p ≥ -17179869184)) = true := decide_eq_true (by omega)
  have k2 : (decide (p ≤ 17179869184)) = true := decide_eq_true (by omega)
  exact gives_of_run mo (t9_2_10_run p) (ps_cons k1 (ps_cons k2 (ps_cons (by unfold nP1 I64; omega) (ps_cons ⟨⟨_, rfl⟩, by unfold I64; omega, by unfold I64; omega⟩ (ps_cons hp (ps_cons ⟨⟨_, rfl⟩, _, rfl⟩ (ps_cons ⟨⟨_, rfl⟩, by unfold I64; omega, by unfold I64; omega⟩ (ps_cons hp (ps_cons ⟨⟨_, rfl⟩, _, rfl⟩ (ps_cons ⟨⟨_, rfl⟩, by unfold I64; omega, by unfold I64; omega⟩ (ps_cons hp (ps_cons ⟨⟨_, rfl⟩, _, rfl⟩ (ps_cons ⟨⟨_, rfl⟩, by unfold I64; omega, by unfold I64; omega⟩ (ps_cons hp (ps_cons ⟨⟨_, rfl⟩, _, rfl⟩ (ps_cons ⟨⟨_, rfl⟩, by unfold I64; omega, by unfold I64; omega⟩ (ps_cons hp (ps_cons ⟨⟨_, rfl⟩, _, rfl⟩ (ps_cons ⟨⟨_, rfl⟩, by unfold I64; omega, by unfold I64; omega⟩ (ps_cons hp (ps_cons ⟨⟨_, rfl⟩, _, rfl⟩ (ps_cons ⟨⟨_, rfl⟩, by unfold I64; omega, by unfold I64; omega⟩ (ps_cons hp (ps_cons ⟨⟨_, rfl⟩, _, rfl⟩ (ps_cons ⟨⟨_, rfl⟩, by unfold I64; omega, by unfold I64; omega⟩ (ps_cons hp (ps_cons ⟨⟨_, rfl⟩, _, rfl⟩ (ps_cons ⟨⟨_, rfl⟩, by unfold I64; omega, by unfold I64; omega⟩ (ps_cons hp (ps_cons ⟨⟨_, rfl⟩, _, rfl⟩ (ps_cons ⟨⟨_, rfl⟩, by unfold I64; omega, by unfold I64; omega⟩ (ps_cons hp (ps_cons ⟨⟨_, rfl⟩, _, rfl⟩ (ps_cons ⟨⟨_, rfl⟩, by unfold I64; omega, by unfold I64; omega⟩ ps_nil)))))))))))))))))))))))))))))))))) rfl
theorem t9_2_11_run (p : Int) : runF P I0 4 30 [.int .i64 2, .int .i64 p, .int .i64 11] (.lit :: (.lit :: (.b true :: (.b true :: [])))) =
  some (I (tk 2 p 11),
    [(decide (p ≥ -17179869184)) = true,
     (decide (p ≤ 17179869184)) = true,
     nP1 [.int .i64 1],
     partP [I (ofI 1), .int .i64 1, .int .i64 2],
     nP1 [.int .i64 p],
     iP2 [I (partI (ofI 1) 1 2), I (pointI p)],
     partP [I (mulI (tk 2 p 0) (pointI p)), .int .i64 (-1), .int .i64 12],
     nP1 [.int .i64 p],
     iP2 [I (tk 2 p 1), I (pointI p)],
     partP [I (mulI (tk 2 p 1) (pointI p)), .int .i64 (-1), .int .i64 30],
     nP1 [.int .i64 p],
     iP2 [I (tk 2 p 2), I (pointI p)],
     partP [I (mulI (tk 2 p 2) (pointI p)), .int .i64 (-1), .int .i64 56],
     nP1 [.int .i64 p],
     iP2 [I (tk 2 p 3), I (pointI p)],
     partP [I (mulI (tk 2 p 3) (pointI p)), .int .i64 (-1), .int .i64 90],
     nP1 [.int .i64 p],
     iP2 [I (tk 2 p 4), I (pointI p)],
     partP [I (mulI (tk 2 p 4) (pointI p)), .int .i64 (-1), .int .i64 132],
     nP1 [.int .i64 p],
     iP2 [I (tk 2 p 5), I (pointI p)],
     partP [I (mulI (tk 2 p 5) (pointI p)), .int .i64 (-1), .int .i64 182],
     nP1 [.int .i64 p],
     iP2 [I (tk 2 p 6), I (pointI p)],
     partP [I (mulI (tk 2 p 6) (pointI p)), .int .i64 (-1), .int .i64 240],
     nP1 [.int .i64 p],
     iP2 [I (tk 2 p 7), I (pointI p)],
     partP [I (mulI (tk 2 p 7) (pointI p)), .int .i64 (-1), .int .i64 306],
     nP1 [.int .i64 p],
     iP2 [I (tk 2 p 8), I (pointI p)],
     partP [I (mulI (tk 2 p 8) (pointI p)), .int .i64 (-1), .int .i64 380],
     nP1 [.int .i64 p],
     iP2 [I (tk 2 p 9), I (pointI p)],
     partP [I (mulI (tk 2 p 9) (pointI p)), .int .i64 (-1), .int .i64 462],
     nP1 [.int .i64 p],
     iP2 [I (tk 2 p 10), I (pointI p)],
     partP [I (mulI (tk 2 p 10) (pointI p)), .int .i64 (-1), .int .i64 552]]) := by kernel_rfl
theorem t9_2_11_leaf (p : Int) (h1 : -17179869184 ≤ p) (h2 : p ≤ 17179869184) : Gives P 30 #[.int .i64 2, .int .i64 p, .int .i64 11] (I (T9 2 p 11)) := by
  have hp : I64 p := by unfold I64; omega
  have k1 : (decide (p ≥ -17179869184)) = true := decide_eq_true (by omega)
  have k2 : (decide (p ≤ 17179869184)) = true := decide_eq_true (by omega)
  exact gives_of_run mo (t9_2_11_run p) (ps_cons k1 (ps_cons k2 (ps_cons (by unfold nP1 I64; omega) (ps_cons ⟨⟨_, rfl⟩, by unfold I64; omega, by unfold I64; omega⟩ (ps_cons hp (ps_cons ⟨⟨_, rfl⟩, _, rfl⟩ (ps_cons ⟨⟨_, rfl⟩, by unfold I64; omega, by unfold I64; omega⟩ (ps_cons hp (ps_cons ⟨⟨_, rfl⟩, _, rfl⟩ (ps_cons ⟨⟨_, rfl⟩, by unfold I64; omega, by unfold I64; omega⟩ (ps_cons hp (ps_cons ⟨⟨_, rfl⟩, _, rfl⟩ (ps_cons ⟨⟨_, rfl⟩, by unfold I64; omega, by unfold I64; omega⟩ (ps_cons hp (ps_cons ⟨⟨_, rfl⟩, _, rfl⟩ (ps_cons ⟨⟨_, rfl⟩, by unfold I64; omega, by unfold I64; omega⟩ (ps_cons hp (ps_cons ⟨⟨_, rfl⟩, _, rfl⟩ (ps_cons ⟨⟨_, rfl⟩, by unfold I64; omega, by unfold I64; omega⟩ (ps_cons hp (ps_cons ⟨⟨_, rfl⟩, _, rfl⟩ (ps_cons ⟨⟨_, rfl⟩, by unfold I64; omega, by unfold I64; omega⟩ (ps_cons hp (ps_cons ⟨⟨_, rfl⟩, _, rfl⟩ (ps_cons ⟨⟨_, rfl⟩, by unfold I64; omega, by unfold I64; omega⟩ (ps_cons hp (ps_cons ⟨⟨_, rfl⟩, _, rfl⟩ (ps_cons ⟨⟨_, rfl⟩, by unfold I64; omega, by unfold I64; omega⟩ (ps_cons hp (ps_cons ⟨⟨_, rfl⟩, _, rfl⟩ (ps_cons ⟨⟨_, rfl⟩, by unfold I64; omega, by unfold I64; omega⟩ (ps_cons hp (ps_cons ⟨⟨_, rfl⟩, _, rfl⟩ (ps_cons ⟨⟨_, rfl⟩, by unfold I64; omega, by unfold I64; omega⟩ (ps_cons hp (ps_cons ⟨⟨_, rfl⟩, _, rfl⟩ (ps_cons ⟨⟨_, rfl⟩, by unfold I64; omega, by unfold I64; omega⟩ ps_nil))))))))))))))))))))))))))))))))))))) rfl
theorem t9_2_12_run (p : Int) : runF P I0 4 30 [.int .i64 2, .int .i64 p, .int .i64 12] (.lit :: (.lit :: (.b true :: (.b true :: [])))) =
  some (I (tk 2 p 12),
    [(decide (p ≥ -17179869184)) = true,
     (decide (p ≤ 17179869184)) = true,
     nP1 [.int .i64 1],
     partP [I (ofI 1), .int .i64 1, .int .i64 2],
     nP1 [.int .i64 p],
     iP2 [I (partI (ofI 1) 1 2), I (pointI p)],
     partP [I (mulI (tk 2 p 0) (pointI p)), .int .i64 (-1), .int .i64 12],
     nP1 [.int .i64 p],
     iP2 [I (tk 2 p 1), I (pointI p)],
     partP [I (mulI (tk 2 p 1) (pointI p)), .int .i64 (-1), .int .i64 30],
     nP1 [.int .i64 p],
     iP2 [I (tk 2 p 2), I (pointI p)],
     partP [I (mulI (tk 2 p 2) (pointI p)), .int .i64 (-1), .int .i64 56],
     nP1 [.int .i64 p],
     iP2 [I (tk 2 p 3), I (pointI p)],
     partP [I (mulI (tk 2 p 3) (pointI p)), .int .i64 (-1), .int .i64 90],
     nP1 [.int .i64 p],
     iP2 [I (tk 2 p 4), I (pointI p)],
     partP [I (mulI (tk 2 p 4) (pointI p)), .int .i64 (-1), .int .i64 132],
     nP1 [.int .i64 p],
     iP2 [I (tk 2 p 5), I (pointI p)],
     partP [I (mulI (tk 2 p 5) (pointI p)), .int .i64 (-1), .int .i64 182],
     nP1 [.int .i64 p],
     iP2 [I (tk 2 p 6), I (pointI p)],
     partP [I (mulI (tk 2 p 6) (pointI p)), .int .i64 (-1), .int .i64 240],
     nP1 [.int .i64 p],
     iP2 [I (tk 2 p 7), I (pointI p)],
     partP [I (mulI (tk 2 p 7) (pointI p)), .int .i64 (-1), .int .i64 306],
     nP1 [.int .i64 p],
     iP2 [I (tk 2 p 8), I (pointI p)],
     partP [I (mulI (tk 2 p 8) (pointI p)), .int .i64 (-1), .int .i64 380],
     nP1 [.int .i64 p],
     iP2 [I (tk 2 p 9), I (pointI p)],
     partP [I (mulI (tk 2 p 9) (pointI p)), .int .i64 (-1), .int .i64 462],
     nP1 [.int .i64 p],
     iP2 [I (tk 2 p 10), I (pointI p)],
     partP [I (mulI (tk 2 p 10) (pointI p)), .int .i64 (-1), .int .i64 552],
     nP1 [.int .i64 p],
     iP2 [I (tk 2 p 11), I (pointI p)],
     partP [I (mulI (tk 2 p 11) (pointI p)), .int .i64 (-1), .int .i64 650]]) := by kernel_rfl
theorem t9_2_12_leaf (p : Int) (h1 : -17179869184 ≤ p) (h2 : p ≤ 17179869184) : Gives P 30 #[.int .i64 2, .int .i64 p, .int .i64 12] (I (T9 2 p 12)) := by
  have hp : I64 p := by unfold I64; omega
  have k1 : (decide (p ≥ -17179869184)) = true := decide_eq_true (by omega)
  have k2 : (decide (p ≤ 17179869184)) = true := decide_eq_true (by omega)
  exact gives_of_run mo (t9_2_12_run p) (ps_cons k1 (ps_cons k2 (ps_cons (by unfold nP1 I64; omega) (ps_cons ⟨⟨_, rfl⟩, by unfold I64; omega, by unfold I64; omega⟩ (ps_cons hp (ps_cons ⟨⟨_, rfl⟩, _, rfl⟩ (ps_cons ⟨⟨_, rfl⟩, by unfold I64; omega, by unfold I64; omega⟩ (ps_cons hp (ps_cons ⟨⟨_, rfl⟩, _, rfl⟩ (ps_cons ⟨⟨_, rfl⟩, by unfold I64; omega, by unfold I64; omega⟩ (ps_cons hp (ps_cons ⟨⟨_, rfl⟩, _, rfl⟩ (ps_cons ⟨⟨_, rfl⟩, by unfold I64; omega, by unfold I64; omega⟩ (ps_cons hp (ps_cons ⟨⟨_, rfl⟩, _, rfl⟩ (ps_cons ⟨⟨_, rfl⟩, by unfold I64; omega, by unfold I64; omega⟩ (ps_cons hp (ps_cons ⟨⟨_, rfl⟩, _, rfl⟩ (ps_cons ⟨⟨_, rfl⟩, by unfold I64; omega, by unfold I64; omega⟩ (ps_cons hp (ps_cons ⟨⟨_, rfl⟩, _, rfl⟩ (ps_cons ⟨⟨_, rfl⟩, by unfold I64; omega, by unfold I64; omega⟩ (ps_cons hp (ps_cons ⟨⟨_, rfl⟩, _, rfl⟩ (ps_cons ⟨⟨_, rfl⟩, by unfold I64; omega, by unfold I64; omega⟩ (ps_cons hp (ps_cons ⟨⟨_, rfl⟩, _, rfl⟩ (ps_cons ⟨⟨_, rfl⟩, by unfold I64; omega, by unfold I64; omega⟩ (ps_cons hp (ps_cons ⟨⟨_, rfl⟩, _, rfl⟩ (ps_cons ⟨⟨_, rfl⟩, by unfold I64; omega, by unfold I64; omega⟩ (ps_cons hp (ps_cons ⟨⟨_, rfl⟩, _, rfl⟩ (ps_cons ⟨⟨_, rfl⟩, by unfold I64; omega, by unfold I64; omega⟩ (ps_cons hp (ps_cons ⟨⟨_, rfl⟩, _, rfl⟩ (ps_cons ⟨⟨_, rfl⟩, by unfold I64; omega, by unfold I64; omega⟩ (ps_cons hp (ps_cons ⟨⟨_, rfl⟩, _, rfl⟩ (ps_cons ⟨⟨_, rfl⟩, by unfold I64; omega, by unfold I64; omega⟩ ps_nil)))))))))))))))))))))))))))))))))))))))) rfl
theorem t9_2_13_run (p : Int) : runF P I0 4 30 [.int .i64 2, .int .i64 p, .int .i64 13] (.lit :: (.lit :: (.b true :: (.b true :: [])))) =
  some (I (tk 2 p 13),
    [(decide (p ≥ -17179869184)) = true,
     (decide (p ≤ 17179869184)) = true,
     nP1 [.int .i64 1],
     partP [I (ofI 1), .int .i64 1, .int .i64 2],
     nP1 [.int .i64 p],
     iP2 [I (partI (ofI 1) 1 2), I (pointI p)],
     partP [I (mulI (tk 2 p 0) (pointI p)), .int .i64 (-1), .int .i64 12],
     nP1 [.int .i64 p],
     iP2 [I (tk 2 p 1), I (pointI p)],
     partP [I (mulI (tk 2 p 1) (pointI p)), .int .i64 (-1), .int .i64 30],
     nP1 [.int .i64 p],
     iP2 [I (tk 2 p 2), I (pointI p)],
     partP [I (mulI (tk 2 p 2) (pointI p)), .int .i64 (-1), .int .i64 56],
     nP1 [.int .i64 p],
     iP2 [I (tk 2 p 3), I (pointI p)],
     partP [I (mulI (tk 2 p 3) (pointI p)), .int .i64 (-1), .int .i64 90],
     nP1 [.int .i64 p],
     iP2 [I (tk 2 p 4), I (pointI p)],
     partP [I (mulI (tk 2 p 4) (pointI p)), .int .i64 (-1), .int .i64 132],
     nP1 [.int .i64 p],
     iP2 [I (tk 2 p 5), I (pointI p)],
     partP [I (mulI (tk 2 p 5) (pointI p)), .int .i64 (-1), .int .i64 182],
     nP1 [.int .i64 p],
     iP2 [I (tk 2 p 6), I (pointI p)],
     partP [I (mulI (tk 2 p 6) (pointI p)), .int .i64 (-1), .int .i64 240],
     nP1 [.int .i64 p],
     iP2 [I (tk 2 p 7), I (pointI p)],
     partP [I (mulI (tk 2 p 7) (pointI p)), .int .i64 (-1), .int .i64 306],
     nP1 [.int .i64 p],
     iP2 [I (tk 2 p 8), I (pointI p)],
     partP [I (mulI (tk 2 p 8) (pointI p)), .int .i64 (-1), .int .i64 380],
     nP1 [.int .i64 p],
     iP2 [I (tk 2 p 9), I (pointI p)],
     partP [I (mulI (tk 2 p 9) (pointI p)), .int .i64 (-1), .int .i64 462],
     nP1 [.int .i64 p],
     iP2 [I (tk 2 p 10), I (pointI p)],
     partP [I (mulI (tk 2 p 10) (pointI p)), .int .i64 (-1), .int .i64 552],
     nP1 [.int .i64 p],
     iP2 [I (tk 2 p 11), I (pointI p)],
     partP [I (mulI (tk 2 p 11) (pointI p)), .int .i64 (-1), .int .i64 650],
     nP1 [.int .i64 p],
     iP2 [I (tk 2 p 12), I (pointI p)],
     partP [I (mulI (tk 2 p 12) (pointI p)), .int .i64 (-1), .int .i64 756]]) := by kernel_rfl
theorem t9_2_13_leaf (p : Int) (h1 : -17179869184 ≤ p) (h2 : p ≤ 17179869184) : Gives P 30 #[.int .i64 2, .int .i64 p, .int .i64 13] (I (T9 2 p 13)) := by
  have hp : I64 p := by unfold I64; omega
  have k1 : (decide (p ≥ -17179869184)) = true := decide_eq_true (by omega)
  have k2 : (decide (p ≤ 17179869184)) = true := decide_eq_true (by omega)
  exact gives_of_run mo (t9_2_13_run p) (ps_cons k1 (ps_cons k2 (ps_cons (by unfold nP1 I64; omega) (ps_cons ⟨⟨_, rfl⟩, by unfold I64; omega, by unfold I64; omega⟩ (ps_cons hp (ps_cons ⟨⟨_, rfl⟩, _, rfl⟩ (ps_cons ⟨⟨_, rfl⟩, by unfold I64; omega, by unfold I64; omega⟩ (ps_cons hp (ps_cons ⟨⟨_, rfl⟩, _, rfl⟩ (ps_cons ⟨⟨_, rfl⟩, by unfold I64; omega, by unfold I64; omega⟩ (ps_cons hp (ps_cons ⟨⟨_, rfl⟩, _, rfl⟩ (ps_cons ⟨⟨_, rfl⟩, by unfold I64; omega, by unfold I64; omega⟩ (ps_cons hp (ps_cons ⟨⟨_, rfl⟩, _, rfl⟩ (ps_cons ⟨⟨_, rfl⟩, by unfold I64; omega, by unfold I64; omega⟩ (ps_cons hp (ps_cons ⟨⟨_, rfl⟩, _, rfl⟩ (ps_cons ⟨⟨_, rfl⟩, by unfold I64; omega, by unfold I64; omega⟩ (ps_cons hp (ps_cons ⟨⟨_, rfl⟩, _, rfl⟩ (ps_cons ⟨⟨_, rfl⟩, by unfold I64; omega, by unfold I64; omega⟩ (ps_cons hp (ps_cons ⟨⟨_, rfl⟩, _, rfl⟩ (ps_cons ⟨⟨_, rfl⟩, by unfold I64; omega, by unfold I64; omega⟩ (ps_cons hp (ps_cons ⟨⟨_, rfl⟩, _, rfl⟩ (ps_cons ⟨⟨_, rfl⟩, by unfold I64; omega, by unfold I64; omega⟩ (ps_cons hp (ps_cons ⟨⟨_, rfl⟩, _, rfl⟩ (ps_cons ⟨⟨_, rfl⟩, by unfold I64; omega, by unfold I64; omega⟩ (ps_cons hp (ps_cons ⟨⟨_, rfl⟩, _, rfl⟩ (ps_cons ⟨⟨_, rfl⟩, by unfold I64; omega, by unfold I64; omega⟩ (ps_cons hp (ps_cons ⟨⟨_, rfl⟩, _, rfl⟩ (ps_cons ⟨⟨_, rfl⟩, by unfold I64; omega, by unfold I64; omega⟩ (ps_cons hp (ps_cons ⟨⟨_, rfl⟩, _, rfl⟩ (ps_cons ⟨⟨_, rfl⟩, by unfold I64; omega, by unfold I64; omega⟩ (ps_cons hp (ps_cons ⟨⟨_, rfl⟩, _, rfl⟩ (ps_cons ⟨⟨_, rfl⟩, by unfold I64; omega, by unfold I64; omega⟩ ps_nil))))))))))))))))))))))))))))))))))))))))))) rfl
theorem t9_2_14_run (p : Int) : runF P I0 4 30 [.int .i64 2, .int .i64 p, .int .i64 14] (.lit :: (.lit :: (.b true :: (.b true :: [])))) =
  some (I (tk 2 p 14),
    [(decide (p ≥ -17179869184)) = true,
     (decide (p ≤ 17179869184)) = true,
     nP1 [.int .i64 1],
     partP [I (ofI 1), .int .i64 1, .int .i64 2],
     nP1 [.int .i64 p],
     iP2 [I (partI (ofI 1) 1 2), I (pointI p)],
     partP [I (mulI (tk 2 p 0) (pointI p)), .int .i64 (-1), .int .i64 12],
     nP1 [.int .i64 p],
     iP2 [I (tk 2 p 1), I (pointI p)],
     partP [I (mulI (tk 2 p 1) (pointI p)), .int .i64 (-1), .int .i64 30],
     nP1 [.int .i64 p],
     iP2 [I (tk 2 p 2), I (pointI p)],
     partP [I (mulI (tk 2 p 2) (pointI p)), .int .i64 (-1), .int .i64 56],
     nP1 [.int .i64 p],
     iP2 [I (tk 2 p 3), I (pointI p)],
     partP [I (mulI (tk 2 p 3) (pointI p)), .int .i64 (-1), .int .i64 90],
     nP1 [.int .i64 p],
     iP2 [I (tk 2 p 4), I (pointI p)],
     partP [I (mulI (tk 2 p 4) (pointI p)), .int .i64 (-1), .int .i64 132],
     nP1 [.int .i64 p],
     iP2 [I (tk 2 p 5), I (pointI p)],
     partP [I (mulI (tk 2 p 5) (pointI p)), .int .i64 (-1), .int .i64 182],
     nP1 [.int .i64 p],
     iP2 [I (tk 2 p 6), I (pointI p)],
     partP [I (mulI (tk 2 p 6) (pointI p)), .int .i64 (-1), .int .i64 240],
     nP1 [.int .i64 p],
     iP2 [I (tk 2 p 7), I (pointI p)],
     partP [I (mulI (tk 2 p 7) (pointI p)), .int .i64 (-1), .int .i64 306],
     nP1 [.int .i64 p],
     iP2 [I (tk 2 p 8), I (pointI p)],
     partP [I (mulI (tk 2 p 8) (pointI p)), .int .i64 (-1), .int .i64 380],
     nP1 [.int .i64 p],
     iP2 [I (tk 2 p 9), I (pointI p)],
     partP [I (mulI (tk 2 p 9) (pointI p)), .int .i64 (-1), .int .i64 462],
     nP1 [.int .i64 p],
     iP2 [I (tk 2 p 10), I (pointI p)],
     partP [I (mulI (tk 2 p 10) (pointI p)), .int .i64 (-1), .int .i64 552],
     nP1 [.int .i64 p],
     iP2 [I (tk 2 p 11), I (pointI p)],
     partP [I (mulI (tk 2 p 11) (pointI p)), .int .i64 (-1), .int .i64 650],
     nP1 [.int .i64 p],
     iP2 [I (tk 2 p 12), I (pointI p)],
     partP [I (mulI (tk 2 p 12) (pointI p)), .int .i64 (-1), .int .i64 756],
     nP1 [.int .i64 p],
     iP2 [I (tk 2 p 13), I (pointI p)],
     partP [I (mulI (tk 2 p 13) (pointI p)), .int .i64 (-1), .int .i64 870]]) := by kernel_rfl
theorem t9_2_14_leaf (p : Int) (h1 : -17179869184 ≤ p) (h2 : p ≤ 17179869184) : Gives P 30 #[.int .i64 2, .int .i64 p, .int .i64 14] (I (T9 2 p 14)) := by
  have hp : I64 p := by unfold I64; omega
  have k1 : (decide (p ≥ -17179869184)) = true := decide_eq_true (by omega)
  have k2 : (decide (p ≤ 17179869184)) = true := decide_eq_true (by omega)
  exact gives_of_run mo (t9_2_14_run p) (ps_cons k1 (ps_cons k2 (ps_cons (by unfold nP1 I64; omega) (ps_cons ⟨⟨_, rfl⟩, by unfold I64; omega, by unfold I64; omega⟩ (ps_cons hp (ps_cons ⟨⟨_, rfl⟩, _, rfl⟩ (ps_cons ⟨⟨_, rfl⟩, by unfold I64; omega, by unfold I64; omega⟩ (ps_cons hp (ps_cons ⟨⟨_, rfl⟩, _, rfl⟩ (ps_cons ⟨⟨_, rfl⟩, by unfold I64; omega, by unfold I64; omega⟩ (ps_cons hp (ps_cons ⟨⟨_, rfl⟩, _, rfl⟩ (ps_cons ⟨⟨_, rfl⟩, by unfold I64; omega, by unfold I64; omega⟩ (ps_cons hp (ps_cons ⟨⟨_, rfl⟩, _, rfl⟩ (ps_cons ⟨⟨_, rfl⟩, by unfold I64; omega, by unfold I64; omega⟩ (ps_cons hp (ps_cons ⟨⟨_, rfl⟩, _, rfl⟩ (ps_cons ⟨⟨_, rfl⟩, by unfold I64; omega, by unfold I64; omega⟩ (ps_cons hp (ps_cons ⟨⟨_, rfl⟩, _, rfl⟩ (ps_cons ⟨⟨_, rfl⟩, by unfold I64; omega, by unfold I64; omega⟩ (ps_cons hp (ps_cons ⟨⟨_, rfl⟩, _, rfl⟩ (ps_cons ⟨⟨_, rfl⟩, by unfold I64; omega, by unfold I64; omega⟩ (ps_cons hp (ps_cons ⟨⟨_, rfl⟩, _, rfl⟩ (ps_cons ⟨⟨_, rfl⟩, by unfold I64; omega, by unfold I64; omega⟩ (ps_cons hp (ps_cons ⟨⟨_, rfl⟩, _, rfl⟩ (ps_cons ⟨⟨_, rfl⟩, by unfold I64; omega, by unfold I64; omega⟩ (ps_cons hp (ps_cons ⟨⟨_, rfl⟩, _, rfl⟩ (ps_cons ⟨⟨_, rfl⟩, by unfold I64; omega, by unfold I64; omega⟩ (ps_cons hp (ps_cons ⟨⟨_, rfl⟩, _, rfl⟩ (ps_cons ⟨⟨_, rfl⟩, by unfold I64; omega, by unfold I64; omega⟩ (ps_cons hp (ps_cons ⟨⟨_, rfl⟩, _, rfl⟩ (ps_cons ⟨⟨_, rfl⟩, by unfold I64; omega, by unfold I64; omega⟩ (ps_cons hp (ps_cons ⟨⟨_, rfl⟩, _, rfl⟩ (ps_cons ⟨⟨_, rfl⟩, by unfold I64; omega, by unfold I64; omega⟩ (ps_cons hp (ps_cons ⟨⟨_, rfl⟩, _, rfl⟩ (ps_cons ⟨⟨_, rfl⟩, by unfold I64; omega, by unfold I64; omega⟩ ps_nil)))))))))))))))))))))))))))))))))))))))))))))) rfl
theorem t9_2_15_run (p : Int) : runF P I0 2 30 [.int .i64 2, .int .i64 p, .int .i64 15] (.lit :: (.lit :: (.b true :: (.b true :: [])))) =
  some (I (⟨0, 0, true⟩),
    [(decide (p ≥ -17179869184)) = true,
     (decide (p ≤ 17179869184)) = true]) := by kernel_rfl
theorem t9_2_15_leaf (p : Int) (h1 : -17179869184 ≤ p) (h2 : p ≤ 17179869184) : Gives P 30 #[.int .i64 2, .int .i64 p, .int .i64 15] (I (T9 2 p 15)) := by
  have hp : I64 p := by unfold I64; omega
  have k1 : (decide (p ≥ -17179869184)) = true := decide_eq_true (by omega)
  have k2 : (decide (p ≤ 17179869184)) = true := decide_eq_true (by omega)
  exact gives_of_run mo (t9_2_15_run p) (ps_cons k1 (ps_cons k2 ps_nil)) rfl
theorem t9_3_0_run (p : Int) : runF P I0 4 30 [.int .i64 3, .int .i64 p, .int .i64 0] (.lit :: (.lit :: (.b true :: (.b true :: [])))) =
  some (I (partI (ofI 1) 1 6),
    [(decide (p ≥ -17179869184)) = true,
     (decide (p ≤ 17179869184)) = true,
     nP1 [.int .i64 1],
     partP [I (ofI 1), .int .i64 1, .int .i64 6]]) := by kernel_rfl
theorem t9_3_0_leaf (p : Int) (h1 : -17179869184 ≤ p) (h2 : p ≤ 17179869184) : Gives P 30 #[.int .i64 3, .int .i64 p, .int .i64 0] (I (T9 3 p 0)) := by
  have hp : I64 p := by unfold I64; omega
  have k1 : (decide (p ≥ -17179869184)) = true := decide_eq_true (by omega)
  have k2 : (decide (p ≤ 17179869184)) = true := decide_eq_true (by omega)
  exact gives_of_run mo (t9_3_0_run p) (ps_cons k1 (ps_cons k2 (ps_cons (by unfold nP1 I64; omega) (ps_cons ⟨⟨_, rfl⟩, by unfold I64; omega, by unfold I64; omega⟩ ps_nil)))) rfl
theorem t9_3_1_run (p : Int) : runF P I0 4 30 [.int .i64 3, .int .i64 p, .int .i64 1] (.lit :: (.lit :: (.b true :: (.b true :: [])))) =
  some (I (tk 3 p 1),
    [(decide (p ≥ -17179869184)) = true,
     (decide (p ≤ 17179869184)) = true,
     nP1 [.int .i64 1],
     partP [I (ofI 1), .int .i64 1, .int .i64 6],
     nP1 [.int .i64 p],
     iP2 [I (partI (ofI 1) 1 6), I (pointI p)],
     partP [I (mulI (tk 3 p 0) (pointI p)), .int .i64 (-1), .int .i64 20]]) := by kernel_rfl
theorem t9_3_1_leaf (p : Int) (h1 : -17179869184 ≤ p) (h2 : p ≤ 17179869184) : Gives P 30 #[.int .i64 3, .int .i64 p, .int .i64 1] (I (T9 3 p 1)) := by
  have hp : I64 p := by unfold I64; omega
  have k1 : (decide (p ≥ -17179869184)) = true := decide_eq_true (by omega)
  have k2 : (decide (p ≤ 17179869184)) = true := decide_eq_true (by omega)
  exact gives_of_run mo (t9_3_1_run p) (ps_cons k1 (ps_cons k2 (ps_cons (by unfold nP1 I64; omega) (ps_cons ⟨⟨_, rfl⟩, by unfold I64; omega, by unfold I64; omega⟩ (ps_cons hp (ps_cons ⟨⟨_, rfl⟩, _, rfl⟩ (ps_cons ⟨⟨_, rfl⟩, by unfold I64; omega, by unfold I64; omega⟩ ps_nil))))))) rfl
theorem t9_3_2_run (p : Int) : runF P I0 4 30 [.int .i64 3, .int .i64 p, .int .i64 2] (.lit :: (.lit :: (.b true :: (.b true :: [])))) =
  some (I (tk 3 p 2),
    [(decide (p ≥ -17179869184)) = true,
     (decide (p ≤ 17179869184)) = true,
     nP1 [.int .i64 1],
     partP [I (ofI 1), .int .i64 1, .int .i64 6],
     nP1 [.int .i64 p],
     iP2 [I (partI (ofI 1) 1 6), I (pointI p)],
     partP [I (mulI (tk 3 p 0) (pointI p)), .int .i64 (-1), .int .i64 20],
     nP1 [.int .i64 p],
     iP2 [I (tk 3 p 1), I (pointI p)],
     partP [I (mulI (tk 3 p 1) (pointI p)), .int .i64 (-1), .int .i64 42]]) := by kernel_rfl
theorem t9_3_2_leaf (p : Int) (h1 : -17179869184 ≤ p) (h2 : p ≤ 17179869184) : Gives P 30 #[.int .i64 3, .int .i64 p, .int .i64 2] (I (T9 3 p 2)) := by
  have hp : I64 p := by unfold I64; omega
  have k1 : (decide (p ≥ -17179869184)) = true := decide_eq_true (by omega)
  have k2 : (decide (p ≤ 17179869184)) = true := decide_eq_true (by omega)
  exact gives_of_run mo (t9_3_2_run p) (ps_cons k1 (ps_cons k2 (ps_cons (by unfold nP1 I64; omega) (ps_cons ⟨⟨_, rfl⟩, by unfold I64; omega, by unfold I64; omega⟩ (ps_cons hp (ps_cons ⟨⟨_, rfl⟩, _, rfl⟩ (ps_cons ⟨⟨_, rfl⟩, by unfold I64; omega, by unfold I64; omega⟩ (ps_cons hp (ps_cons ⟨⟨_, rfl⟩, _, rfl⟩ (ps_cons ⟨⟨_, rfl⟩, by unfold I64; omega, by unfold I64; omega⟩ ps_nil)))))))))) rfl
theorem t9_3_3_run (p : Int) : runF P I0 4 30 [.int .i64 3, .int .i64 p, .int .i64 3] (.lit :: (.lit :: (.b true :: (.b true :: [])))) =
  some (I (tk 3 p 3),
    [(decide (p ≥ -17179869184)) = true,
     (decide (p ≤ 17179869184)) = true,
     nP1 [.int .i64 1],
     partP [I (ofI 1), .int .i64 1, .int .i64 6],
     nP1 [.int .i64 p],
     iP2 [I (partI (ofI 1) 1 6), I (pointI p)],
     partP [I (mulI (tk 3 p 0) (pointI p)), .int .i64 (-1), .int .i64 20],
     nP1 [.int .i64 p],
     iP2 [I (tk 3 p 1), I (pointI p)],
     partP [I (mulI (tk 3 p 1) (pointI p)), .int .i64 (-1), .int .i64 42],
     nP1 [.int .i64 p],
     iP2 [I (tk 3 p 2), I (pointI p)],
     partP [I (mulI (tk 3 p 2) (pointI p)), .int .i64 (-1), .int .i64 72]]) := by kernel_rfl
theorem t9_3_3_leaf (p : Int) (h1 : -17179869184 ≤ p) (h2 : p ≤ 17179869184) : Gives P 30 #[.int .i64 3, .int .i64 p, .int .i64 3] (I (T9 3 p 3)) := by
  have hp : I64 p := by unfold I64; omega
  have k1 : (decide (p ≥ -17179869184)) = true := decide_eq_true (by omega)
  have k2 : (decide (p ≤ 17179869184)) = true := decide_eq_true (by omega)
  exact gives_of_run mo (t9_3_3_run p) (ps_cons k1 (ps_cons k2 (ps_cons (by unfold nP1 I64; omega) (ps_cons ⟨⟨_, rfl⟩, by unfold I64; omega, by unfold I64; omega⟩ (ps_cons hp (ps_cons ⟨⟨_, rfl⟩, _, rfl⟩ (ps_cons ⟨⟨_, rfl⟩, by unfold I64; omega, by unfold I64; omega⟩ (ps_cons hp (ps_cons ⟨⟨_, rfl⟩, _, rfl⟩ (ps_cons ⟨⟨_, rfl⟩, by unfold I64; omega, by unfold I64; omega⟩ (ps_cons hp (ps_cons ⟨⟨_, rfl⟩, _, rfl⟩ (ps_cons ⟨⟨_, rfl⟩, by unfold I64; omega, by unfold I64; omega⟩ ps_nil))))))))))))) rfl
theorem t9_3_4_run (p : Int) : runF P I0 4 30 [.int .i64 3, .int .i64 p, .int .i64 4] (.lit :: (.lit :: (.b true :: (.b true :: [])))) =
  some (I (tk 3 p 4),
    [(decide (p ≥ -17179869184)) = true,
     (decide (p ≤ 17179869184)) = true,
     nP1 [.int .i64 1],
     partP [I (ofI 1), .int .i64 1, .int .i64 6],
     nP1 [.int .i64 p],
     iP2 [I (partI (ofI 1) 1 6), I (pointI p)],
     partP [I (mulI (tk 3 p 0) (pointI p)), .int .i64 (-1), .int .i64 20],
     nP1 [.int .i64 p],
     iP2 [I (tk 3 p 1), I (pointI p)],
     partP [I (mulI (tk 3 p 1) (pointI p)), .int .i64 (-1), .int .i64 42],
     nP1 [.int .i64 p],
     iP2 [I (tk 3 p 2), I (pointI p)],
     partP [I (mulI (tk 3 p 2) (pointI p)), .int .i64 (-1), .int .i64 72],
     nP1 [.int .i64 p],
     iP2 [I (tk 3 p 3), I (pointI p)],
     partP [I (mulI (tk 3 p 3) (pointI p)), .int .i64 (-1), .int .i64 110]]) := by kernel_rfl
theorem t9_3_4_leaf (p : Int) (h1 : -17179869184 ≤ p) (h2 : p ≤ 17179869184) : Gives P 30 #[.int .i64 3, .int .i64 p, .int .i64 4] (I (T9 3 p 4)) := by
  have hp : I64 p := by unfold I64; omega
  have k1 : (decide (p ≥ -17179869184)) = true := decide_eq_true (by omega)
  have k2 : (decide (p ≤ 17179869184)) = true := decide_eq_true (by omega)
  exact gives_of_run mo (t9_3_4_run p) (ps_cons k1 (ps_cons k2 (ps_cons (by unfold nP1 I64; omega) (ps_cons ⟨⟨_, rfl⟩, by unfold I64; omega, by unfold I64; omega⟩ (ps_cons hp (ps_cons ⟨⟨_, rfl⟩, _, rfl⟩ (ps_cons ⟨⟨_, rfl⟩, by unfold I64; omega, by unfold I64; omega⟩ (ps_cons hp (ps_cons ⟨⟨_, rfl⟩, _, rfl⟩ (ps_cons ⟨⟨_, rfl⟩, by unfold I64; omega, by unfold I64; omega⟩ (ps_cons hp (ps_cons ⟨⟨_, rfl⟩, _, rfl⟩ (ps_cons ⟨⟨_, rfl⟩, by unfold I64; omega, by unfold I64; omega⟩ (ps_cons hp (ps_cons ⟨⟨_, rfl⟩, _, rfl⟩ (ps_cons ⟨⟨_, rfl⟩, by unfold I64; omega, by unfold I64; omega⟩ ps_nil)))))))))))))))) rfl
theorem t9_3_5_run (p : Int) : runF P I0 4 30 [.int .i64 3, .int .i64 p, .int .i64 5] (.lit :: (.lit :: (.b true :: (.b true :: [])))) =
  some (I (tk 3 p 5),
    [(decide (p ≥ -17179869184)) = true,
     (decide (p ≤ 17179869184)) = true,
     nP1 [.int .i64 1],
     partP [I (ofI 1), .int .i64 1, .int .i64 6],
     nP1 [.int .i64 p],
     iP2 [I (partI (ofI 1) 1 6), I (pointI p)],
     partP [I (mulI (tk 3 p 0) (pointI p)), .int .i64 (-1), .int .i64 20],
     nP1 [.int .i64 p],
     iP2 [I (tk 3 p 1), I (pointI p)],
     partP [I (mulI (tk 3 p 1) (pointI p)), .int .i64 (-1), .int .i64 42],
     nP1 [.int .i64 p],
     iP2 [I (tk 3 p 2), I (pointI p)],
     partP [I (mulI (tk 3 p 2) (pointI p)), .int .i64 (-1), .int .i64 72],
     nP1 [.int .i64 p],
     iP2 [I (tk 3 p 3), I (pointI p)],
     partP [I (mulI (tk 3 p 3) (pointI p)), .int .i64 (-1), .int .i64 110],
     nP1 [.int .i64 p],
     iP2 [I (tk 3 p 4), I (pointI p)],
     partP [I (mulI (tk 3 p 4) (pointI p)), .int .i64 (-1), .int .i64 156]]) := by kernel_rfl
theorem t9_3_5_leaf (p : Int) (h1 : -17179869184 ≤ p) (h2 : p ≤ 17179869184) : Gives P 30 #[.int .i64 3, .int .i64 p, .int .i64 5] (I (T9 3 p 5)) := by
  have hp : I64 p := by unfold I64; omega
  have k1 : (decide (p ≥ -17179869184)) = true := decide_eq_true (by omega)
  have k2 : (decide (p ≤ 17179869184)) = true := decide_eq_true (by omega)
  exact gives_of_run mo (t9_3_5_run p) (ps_cons k1 (ps_cons k2 (ps_cons (by unfold nP1 I64; omega) (ps_cons ⟨⟨_, rfl⟩, by unfold I64; omega, by unfold I64; omega⟩ (ps_cons hp (ps_cons ⟨⟨_, rfl⟩, _, rfl⟩ (ps_cons ⟨⟨_, rfl⟩, by unfold I64; omega, by unfold I64; omega⟩ (ps_cons hp (ps_cons ⟨⟨_, rfl⟩, _, rfl⟩ (ps_cons ⟨⟨_, rfl⟩, by unfold I64; omega, by unfold I64; omega⟩ (ps_cons hp (ps_cons ⟨⟨_, rfl⟩, _, rfl⟩ (ps_cons ⟨⟨_, rfl⟩, by unfold I64; omega, by unfold I64; omega⟩ (ps_cons hp (ps_cons ⟨⟨_, rfl⟩, _, rfl⟩ (ps_cons ⟨⟨_, rfl⟩, by unfold I64; omega, by unfold I64; omega⟩ (ps_cons hp (ps_cons ⟨⟨_, rfl⟩, _, rfl⟩ (ps_cons ⟨⟨_, rfl⟩, by unfold I64; omega, by unfold I64; omega⟩ ps_nil))))))))))))))))))) rfl
theorem t9_3_6_run (p : Int) : runF P I0 4 30 [.int .i64 3, .int .i64 p, .int .i64 6] (.lit :: (.lit :: (.b true :: (.b true :: [])))) =
  some (I (tk 3 p 6),
    [(decide (p ≥ -17179869184)) = true,
     (decide (p ≤ 17179869184)) = true,
     nP1 [.int .i64 1],
     partP [I (ofI 1), .int .i64 1, .int .i64 6],
     nP1 [.int .i64 p],
     iP2 [I (partI (ofI 1) 1 6), I (pointI p)],
     partP [I (mulI (tk 3 p 0) (pointI p)), .int .i64 (-1), .int .i64 20],
     nP1 [.int .i64 p],
     iP2 [I (tk 3 p 1), I (pointI p)],
     partP [I (mulI (tk 3 p 1) (pointI p)), .int .i64 (-1), .int .i64 42],
     nP1 [.int .i64 p],
     iP2 [I (tk 3 p 2), I (pointI p)],
     partP [I (mulI (tk 3 p 2) (pointI p)), .int .i64 (-1), .int .i64 72],
     nP1 [.int .i64 p],
     iP2 [I (tk 3 p 3), I (pointI p)],
     partP [I (mulI (tk 3 p 3) (pointI p)), .int .i64 (-1), .int .i64 110],
     nP1 [.int .i64 p],
     iP2 [I (tk 3 p 4), I (pointI p)],
     partP [I (mulI (tk 3 p 4) (pointI p)), .int .i64 (-1), .int .i64 156],
     nP1 [.int .i64 p],
     iP2 [I (tk 3 p 5), I (pointI p)],
     partP [I (mulI (tk 3 p 5) (pointI p)), .int .i64 (-1), .int .i64 210]]) := by kernel_rfl
theorem t9_3_6_leaf (p : Int) (h1 : -17179869184 ≤ p) (h2 : p ≤ 17179869184) : Gives P 30 #[.int .i64 3, .int .i64 p, .int .i64 6] (I (T9 3 p 6)) := by
  have hp : I64 p := by unfold I64; omega
  have k1 : (decide (p ≥ -17179869184)) = true := decide_eq_true (by omega)
  have k2 : (decide (p ≤ 17179869184)) = true := decide_eq_true (by omega)
  exact gives_of_run mo (t9_3_6_run p) (ps_cons k1 (ps_cons k2 (ps_cons (by unfold nP1 I64; omega) (ps_cons ⟨⟨_, rfl⟩, by unfold I64; omega, by unfold I64; omega⟩ (ps_cons hp (ps_cons ⟨⟨_, rfl⟩, _, rfl⟩ (ps_cons ⟨⟨_, rfl⟩, by unfold I64; omega, by unfold I64; omega⟩ (ps_cons hp (ps_cons ⟨⟨_, rfl⟩, _, rfl⟩ (ps_cons ⟨⟨_, rfl⟩, by unfold I64; omega, by unfold I64; omega⟩ (ps_cons hp (ps_cons ⟨⟨_, rfl⟩, _, rfl⟩ (ps_cons ⟨⟨_, rfl⟩, by unfold I64; omega, by unfold I64; omega⟩ (ps_cons hp (ps_cons ⟨⟨_, rfl⟩, _, rfl⟩ (ps_cons ⟨⟨_, rfl⟩, by unfold I64; omega, by unfold I64; omega⟩ (ps_cons hp (ps_cons ⟨⟨_, rfl⟩, _, rfl⟩ (ps_cons ⟨⟨_, rfl⟩, by unfold I64; omega, by unfold I64; omega⟩ (ps_cons hp (ps_cons ⟨⟨_, rfl⟩, _, rfl⟩ (ps_cons ⟨⟨_, rfl⟩, by unfold I64; omega, by unfold I64; omega⟩ ps_nil)))))))))))))))))))))) rfl
theorem t9_3_7_run (p : Int) : runF P I0 4 30 [.int .i64 3, .int .i64 p, .int .i64 7] (.lit :: (.lit :: (.b true :: (.b true :: [])))) =
  some (I (tk 3 p 7),
    [(decide (p ≥ -17179869184)) = true,
     (decide (p ≤ 17179869184)) = true,
     nP1 [.int .i64 1],
     partP [I (ofI 1), .int .i64 1, .int .i64 6],
     nP1 [.int .i64 p],
     iP2 [I (partI (ofI 1) 1 6), I (pointI p)],
     partP [I (mulI (tk 3 p 0) (pointI p)), .int .i64 (-1), .int .i64 20],
     nP1 [.int .i64 p],
     iP2 [I (tk 3 p 1), I (pointI p)],
     partP [I (mulI (tk 3 p 1) (pointI p)), .int .i64 (-1), .int .i64 42],
     nP1 [.int .i64 p],
     iP2 [I (tk 3 p 2), I (pointI p)],
     partP [I (mulI (tk 3 p 2) (pointI p)), .int .i64 (-1), .int .i64 72],
     nP1 [.int .i64 p],
     iP2 [I (tk 3 p 3), I (pointI p)],
     partP [I (mulI (tk 3 p 3) (pointI p)), .int .i64 (-1), .int .i64 110],
     nP1 [.int .i64 p],
     iP2 [I (tk 3 p 4), I (pointI p)],
     partP [I (mulI (tk 3 p 4) (pointI p)), .int .i64 (-1), .int .i64 156],
     nP1 [.int .i64 p],
     iP2 [I (tk 3 p 5), I (pointI p)],
     partP [I (mulI (tk 3 p 5) (pointI p)), .int .i64 (-1), .int .i64 210],
     nP1 [.int .i64 p],
     iP2 [I (tk 3 p 6), I (pointI p)],
     partP [I (mulI (tk 3 p 6) (pointI p)), .int .i64 (-1), .int .i64 272]]) := by kernel_rfl
theorem t9_3_7_leaf (p : Int) (h1 : -17179869184 ≤ p) (h2 : p ≤ 17179869184) : Gives P 30 #[.int .i64 3, .int .i64 p, .int .i64 7] (I (T9 3 p 7)) := by
  have hp : I64 p := by unfold I64; omega
  have k1 : (decide (p ≥ -17179869184)) = true := decide_eq_true (by omega)
  have k2 : (decide (p ≤ 17179869184)) = true := decide_eq_true (by omega)
  exact gives_of_run mo (t9_3_7_run p) (ps_cons k1 (ps_cons k2 (ps_cons (by unfold nP1 I64; omega) (ps_cons ⟨⟨_, rfl⟩, by unfold I64; omega, by unfold I64; omega⟩ (ps_cons hp (ps_cons ⟨⟨_, rfl⟩, _, rfl⟩ (ps_cons ⟨⟨_, rfl⟩, by unfold I64; omega, by unfold I64; omega⟩ (ps_cons hp (ps_cons ⟨⟨_, rfl⟩, _, rfl⟩ (ps_cons ⟨⟨_, rfl⟩, by unfold I64; omega, by unfold I64; omega⟩ (ps_cons hp (ps_cons ⟨⟨_, rfl⟩, _, rfl⟩ (ps_cons ⟨⟨_, rfl⟩, by unfold I64; omega, by unfold I64; omega⟩ (ps_cons hp (ps_cons ⟨⟨_, rfl⟩, _, rfl⟩ (ps_cons ⟨⟨_, rfl⟩, by unfold I64; omega, by unfold I64; omega⟩ (ps_cons hp (ps_cons ⟨⟨_, rfl⟩, _, rfl⟩ (ps_cons ⟨⟨_, rfl⟩, by unfold I64; omega, by unfold I64; omega⟩ (ps_cons hp (ps_cons ⟨⟨_, rfl⟩, _, rfl⟩ (ps_cons ⟨⟨_, rfl⟩, by unfold I64; omega, by unfold I64; omega⟩ (ps_cons hp (ps_cons ⟨⟨_, rfl⟩, _, rfl⟩ (ps_cons ⟨⟨_, rfl⟩, by unfold I64; omega, by unfold I64; omega⟩ ps_nil))))))))))))))))))))))))) rfl
theorem t9_3_8_run (p : Int) : runF P I0 4 30 [.int .i64 3, .int .i64 p, .int .i64 8] (.lit :: (.lit :: (.b true :: (.b true :: [])))) =
  some (I (tk 3 p 8),
    [(decide (p ≥ -17179869184)) = true,
     (decide (p ≤ 17179869184)) = true,
     nP1 [.int .i64 1],
     partP [I (ofI 1), .int .i64 1, .int .i64 6],
     nP1 [.int .i64 p],
     iP2 [I (partI (ofI 1) 1 6), I (pointI p)],
     partP [I (mulI (tk 3 p 0) (pointI p)), .int .i64 (-1), .int .i64 20],
     nP1 [.int .i64 p],
     iP2 [I (tk 3 p 1), I (pointI p)],
     partP [I (mulI (tk 3 p 1) (pointI p)), .int .i64 (-1), .int .i64 42],
     nP1 [.int .i64 p],
     iP2 [I (tk 3 p 2), I (pointI p)],
     partP [I (mulI (tk 3 p 2) (pointI p)), .int .i64 (-1), .int .i64 72],
     nP1 [.int .i64 p],
     iP2 [I (tk 3 p 3), I (pointI p)],
     partP [I (mulI (tk 3 p 3) (pointI p)), .int .i64 (-1), .int .i64 110],
     nP1 [.int .i64 p],
     iP2 [I (tk 3 p 4), I (pointI p)],
     partP [I (mulI (tk 3 p 4) (pointI p)), .int .i64 (-1), .int .i64 156],
     nP1 [.int .i64 p],
     iP2 [I (tk 3 p 5), I (pointI p)],
     partP [I (mulI (tk 3 p 5) (pointI p)), .int .i64 (-1), .int .i64 210],
     nP1 [.int .i64 p],
     iP2 [I (tk 3 p 6), I (pointI p)],
     partP [I (mulI (tk 3 p 6) (pointI p)), .int .i64 (-1), .int .i64 272],
     nP1 [.int .i64 p],
     iP2 [I (tk 3 p 7), I (pointI p)],
     partP [I (mulI (tk 3 p 7) (pointI p)), .int .i64 (-1), .int .i64 342]]) := by kernel_rfl
theorem t9_3_8_leaf (p : Int) (h1 : -17179869184 ≤ p) (h2 : p ≤ 17179869184) : Gives P 30 #[.int .i64 3, .int .i64 p, .int .i64 8] (I (T9 3 p 8)) := by
  have hp : I64 p := by unfold I64; omega
  have k1 : (decide (p ≥ -17179869184)) = true := decide_eq_true (by omega)
  have k2 : (decide (p ≤ 17179869184)) = true := decide_eq_true (by omega)
  exact gives_of_run mo (t9_3_8_run p) (ps_cons k1 (ps_cons k2 (ps_cons (by unfold nP1 I64; omega) (ps_cons ⟨⟨_, rfl⟩, by unfold I64; omega, by unfold I64; omega⟩ (ps_cons hp (ps_cons ⟨⟨_, rfl⟩, _, rfl⟩ (ps_cons ⟨⟨_, rfl⟩, by unfold I64; omega, by unfold I64; omega⟩ (ps_cons hp (ps_cons ⟨⟨_, rfl⟩, _, rfl⟩ (ps_cons ⟨⟨_, rfl⟩, by unfold I64; omega, by unfold I64; omega⟩ (ps_cons hp (ps_cons ⟨⟨_, rfl⟩, _, rfl⟩ (ps_cons ⟨⟨_, rfl⟩, by unfold I64; omega, by unfold I64; omega⟩ (ps_cons hp (ps_cons ⟨⟨_, rfl⟩, _, rfl⟩ (ps_cons ⟨⟨_, rfl⟩, by unfold I64; omega, by unfold I64; omega⟩ (ps_cons hp (ps_cons ⟨⟨_, rfl⟩, _, rfl⟩ (ps_cons ⟨⟨_, rfl⟩, by unfold I64; omega, by unfold I64; omega⟩ (ps_cons hp (ps_cons ⟨⟨_, rfl⟩, _, rfl⟩ (ps_cons ⟨⟨_, rfl⟩, by unfold I64; omega, by unfold I64; omega⟩ (ps_cons hp (ps_cons ⟨⟨_, rfl⟩, _, rfl⟩ (ps_cons ⟨⟨_, rfl⟩, by unfold I64; omega, by unfold I64; omega⟩ (ps_cons hp (ps_cons ⟨⟨_, rfl⟩, _, rfl⟩ (ps_cons ⟨⟨_, rfl⟩, by unfold I64; omega, by unfold I64; omega⟩ ps_nil)))))))))))))))))))))))))))) rfl
theorem t9_3_9_run (p : Int) : runF P I0 4 30 [.int .i64 3, .int .i64 p, .int .i64 9] (.lit :: (.lit :: (.b true :: (.b true :: [])))) =
  some (I (tk 3 p 9),
    [(decide (p ≥ -17179869184)) = true,
     (decide (p ≤ 17179869184)) = true,
     nP1 [.int .i64 1],
     partP [I (ofI 1), .int .i64 1, .int .i64 6],
     nP1 [.int .i64 p],
     iP2 [I (partI (ofI 1) 1 6), I (pointI p)],
     partP [I (mulI (tk 3 p 0) (pointI p)), .int .i64 (-1), .int .i64 20],
     nP1 [.int .i64 p],
     iP2 [I (tk 3 p 1), I (pointI p)],
     partP [I (mulI (tk 3 p 1) (pointI p)), .int .i64 (-1), .int .i64 42],
     nP1 [.int .i64 p],
     iP2 [I (tk 3 p 2), I (pointI p)],
     partP [I (mulI (tk 3 p 2) (pointI p)), .int .i64 (-1), .int .i64 72],
     nP1 [.int .i64 p],
     iP2 [I (tk 3 p 3), I (pointI p)],
     partP [I (mulI (tk 3 p 3) (pointI p)), .int .i64 (-1), .int .i64 110],
     nP1 [.int .i64 p],
     iP2 [I (tk 3 p 4), I (pointI p)],
     partP [I (mulI (tk 3 p 4) (pointI p)), .int .i64 (-1), .int .i64 156],
     nP1 [.int .i64 p],
     iP2 [I (tk 3 p 5), I (pointI p)],
     partP [I (mulI (tk 3 p 5) (pointI p)), .int .i64 (-1), .int .i64 210],
     nP1 [.int .i64 p],
     iP2 [I (tk 3 p 6), I (pointI p)],
     partP [I (mulI (tk 3 p 6) (pointI p)), .int .i64 (-1), .int .i64 272],
     nP1 [.int .i64 p],
     iP2 [I (tk 3 p 7), I (pointI p)],
     partP [I (mulI (tk 3 p 7) (pointI p)), .int .i64 (-1), .int .i64 342],
     nP1 [.int .i64 p],
     iP2 [I (tk 3 p 8), I (pointI p)],
     partP [I (mulI (tk 3 p 8) (pointI p)), .int .i64 (-1), .int .i64 420]]) := by kernel_rfl
theorem t9_3_9_leaf (p : Int) (h1 : -17179869184 ≤ p) (h2 : p ≤ 17179869184) : Gives P 30 #[.int .i64 3, .int .i64 p, .int .i64 9] (I (T9 3 p 9)) := by
  have hp : I64 p := by unfold I64; omega
  have k1 : (decide (p ≥ -17179869184)) = true := decide_eq_true (by omega)
  have k2 : (decide (p ≤ 17179869184)) = true := decide_eq_true (by omega)
  exact gives_of_run mo (t9_3_9_run p) (ps_cons k1 (ps_cons k2 (ps_cons (by unfold nP1 I64; omega) (ps_cons ⟨⟨_, rfl⟩, by unfold I64; omega, by unfold I64; omega⟩ (ps_cons hp (ps_cons ⟨⟨_, rfl⟩, _, rfl⟩ (ps_cons ⟨⟨_, rfl⟩, by unfold I64; omega, by unfold I64; omega⟩ (ps_cons hp (ps_cons ⟨⟨_, rfl⟩, _, rfl⟩ (ps_cons ⟨⟨_, rfl⟩, by unfold I64; omega, by unfold I64; omega⟩ (ps_cons hp (ps_cons ⟨⟨_, rfl⟩, _, rfl⟩ (ps_cons ⟨⟨_, rfl⟩, by unfold I64; omega, by unfold I64; omega⟩ (ps_cons hp (ps_cons ⟨⟨_, rfl⟩, _, rfl⟩ (ps_cons ⟨⟨_, rfl⟩, by unfold I64; omega, by unfold I64; omega⟩ (ps_cons hp (ps_cons ⟨⟨_, rfl⟩, _, rfl⟩ (ps_cons ⟨⟨_, rfl⟩, by unfold I64; omega, by unfold I64; omega⟩ (ps_cons hp (ps_cons ⟨⟨_, rfl⟩, _, rfl⟩ (ps_cons ⟨⟨_, rfl⟩, by unfold I64; omega, by unfold I64; omega⟩ (ps_cons hp (ps_cons ⟨⟨_, rfl⟩, _, rfl⟩ (ps_cons ⟨⟨_, rfl⟩, by unfold I64; omega, by unfold I64; omega⟩ (ps_cons hp (ps_cons ⟨⟨_, rfl⟩, _, rfl⟩ (ps_cons ⟨⟨_, rfl⟩, by unfold I64; omega, by unfold I64; omega⟩ (ps_cons hp (ps_cons ⟨⟨_, rfl⟩, _, rfl⟩ (ps_cons ⟨⟨_, rfl⟩, by unfold I64; omega, by unfold I64; omega⟩ ps_nil))))))))))))))))))))))))))))))) rfl
theorem t9_3_10_run (p : Int) : runF P I0 4 30 [.int .i64 3, .int .i64 p, .int .i64 10] (.lit :: (.lit :: (.b true :: (.b true :: [])))) =
  some (I (tk 3 p 10),
    [(decide (p ≥ -17179869184)) = true,
     (decide (p ≤ 17179869184)) = true,
     nP1 [.int .i64 1],
     partP [I (ofI 1), .int .i64 1, .int .i64 6],
     nP1 [.int .i64 p],
     iP2 [I (partI (ofI 1) 1 6), I (pointI p)],
     partP [I (mulI (tk 3 p 0) (pointI p)), .int .i64 (-1), .int .i64 20],
     nP1 [.int .i64 p],
     iP2 [I (tk 3 p 1), I (pointI p)],
     partP [I (mulI (tk 3 p 1) (pointI p)), .int .i64 (-1), .int .i64 42],
     nP1 [.int .i64 p],
     iP2 [I (tk 3 p 2), I (pointI p)],
     partP [I (mulI (tk 3 p 2) (pointI p)), .int .i64 (-1), .int .i64 72],
     nP1 [.int .i64 p],
     iP2 [I (tk 3 p 3), I (pointI p)],
     partP [I (mulI (tk 3 p 3) (pointI p)), .int .i64 (-1), .int .i64 110],
     nP1 [.int .i64 p],
     iP2 [I (tk 3 p 4), I (pointI p)],
     partP [I (mulI (tk 3 p 4) (pointI p)), .int .i64 (-1), .int .i64 156],
     nP1 [.int .i64 p],
     iP2 [I (tk 3 p 5), I (pointI p)],
     partP [I (mulI (tk 3 p 5) (pointI p)), .int .i64 (-1), .int .i64 210],
     nP1 [.int .i64 p],
     iP2 [I (tk 3 p 6), I (pointI p)],
     partP [I (mulI (tk 3 p 6) (pointI p)), .int .i64 (-1), .int .i64 272],
     nP1 [.int .i64 p],
     iP2 [I (tk 3 p 7), I (pointI p)],
     partP [I (mulI (tk 3 p 7) (pointI p)), .int .i64 (-1), .int .i64 342],
     nP1 [.int .i64 p],
     iP2 [I (tk 3 p 8), I (pointI p)],
     partP [I (mulI (tk 3 p 8) (pointI p)), .int .i64 (-1), .int .i64 420],
     nP1 [.int .i64 p],
     iP2 [I (tk 3 p 9), I (pointI p)],
     partP [I (mulI (tk 3 p 9) (pointI p)), .int .i64 (-1), .int .i64 506]]) := by kernel_rfl
theorem t9_3_10_leaf (p : Int) (h1 : -17179869184 ≤ p) (h2 : p ≤ 17179869184) : Gives P 30 #[.int .i64 3, .int .i64 p, .int .i64 10] (I (T9 3 p 10)) := by
  have hp : I64 p := by unfold I64; omega
  have k1 : (decide (p ≥ -17179869184)) = true := decide_eq_true (by omega)
  have k2 : (decide (p ≤ 17179869184)) = true := decide_eq_true (by omega)
  exact gives_of_run mo (t9_3_10_run p) (ps_cons k1 (ps_cons k2 (ps_cons (by unfold nP1 I64; omega) (ps_cons ⟨⟨_, rfl⟩, by unfold I64; omega, by unfold I64; omega⟩ (ps_cons hp (ps_cons ⟨⟨_, rfl⟩, _, rfl⟩ (ps_cons ⟨⟨_, rfl⟩, by unfold I64; omega, by unfold I64; omega⟩ (ps_cons hp (ps_cons ⟨⟨_, rfl⟩, _, rfl⟩ (ps_cons ⟨⟨_, rfl⟩, by unfold I64; omega, by unfold I64; omega⟩ (ps_cons hp (ps_cons ⟨⟨_, rfl⟩, _, rfl⟩ (ps_cons ⟨⟨_, rfl⟩, by unfold I64; omega, by unfold I64; omega⟩ (ps_cons hp (ps_cons ⟨⟨_, rfl⟩, _, rfl⟩ (ps_cons ⟨⟨_, rfl⟩, by unfold I64; omega, by unfold I64; omega⟩ (ps_cons hp (ps_cons ⟨⟨_, rfl⟩, _, rfl⟩ (ps_cons ⟨⟨_, rfl⟩, by unfold I64; omega, by unfold I64; omega⟩ (ps_cons hp (ps_cons ⟨⟨_, rfl⟩, _, rfl⟩ (ps_cons ⟨⟨_, rfl⟩, by unfold I64; omega, by unfold I64; omega⟩ (ps_cons hp (ps_cons ⟨⟨_, rfl⟩, _, rfl⟩ (ps_cons ⟨⟨_, rfl⟩, by unfold I64; omega, by unfold I64; omega⟩ (ps_cons hp (ps_cons ⟨⟨_, rfl⟩, _, rfl⟩ (ps_cons ⟨⟨_, rfl⟩, by unfold I64; omega, by unfold I64; omega⟩ (ps_cons hp (ps_cons ⟨⟨_, rfl⟩, _, rfl⟩ (ps_cons ⟨⟨_, rfl⟩, by unfold I64; omega, by unfold I64; omega⟩ (ps_cons hp (ps_cons ⟨⟨_, rfl⟩, _, rfl⟩ (ps_cons ⟨⟨_, rfl⟩, by unfold I64; omega, by unfold I64; omega⟩ ps_nil)))))))))))))))))))))))))))))))))) rfl
theorem t9_3_11_run (p : Int) : runF P I0 4 30 [.int .i64 3, .int .i64 p, .int .i64 11] (.lit :: (.lit :: (.b true :: (.b true :: [])))) =
  some (I (tk 3 p 11),
    [(decide (p ≥ -17179869184)) = true,
     (decide (p ≤ 17179869184)) = true,
     nP1 [.int .i64 1],
     partP [I (ofI 1), .int .i64 1, .int .i64 6],
     nP1 [.int .i64 p],
     iP2 [I (partI (ofI 1) 1 6), I (pointI p)],
     partP [I (mulI (tk 3 p 0) (pointI p)), .int .i64 (-1), .int .i64 20],
     nP1 [.int .i64 p],
     iP2 [I (tk 3 p 1), I (pointI p)],
     partP [I (mulI (tk 3 p 1) (pointI p)), .int .i64 (-1), .int .i64 42],
     nP1 [.int .i64 p],
     iP2 [I (tk 3 p 2), I (pointI p)],
     partP [I (mulI (tk 3 p 2) (pointI p)), .int .i64 (-1), .int .i64 72],
     nP1 [.int .i64 p],
     iP2 [I (tk 3 p 3), I (pointI p)],
     partP [I (mulI (tk 3 p 3) (pointI p)), .int .i64 (-1), .int .i64 110],
     nP1 [.int .i64 p],
     iP2 [I (tk 3 p 4), I (pointI p)],
     partP [I (mulI (tk 3 p 4) (pointI p)), .int .i64 (-1), .int .i64 156],
     nP1 [.int .i64 p],
     iP2 [I (tk 3 p 5), I (pointI p)],
     partP [I (mulI (tk 3 p 5) (pointI p)), .int .i64 (-1), .int .i64 210],
     nP1 [.int .i64 p],
     iP2 [I (tk 3 p 6), I (pointI p)],
     partP [I (mulI (tk 3 p 6) (pointI p)), .int .i64 (-1), .int .i64 272],
     nP1 [.int .i64 p],
     iP2 [I (tk 3 p 7), I (pointI p)],
     partP [I (mulI (tk 3 p 7) (pointI p)), .int .i64 (-1), .int .i64 342],
     nP1 [.int .i64 p],
     iP2 [I (tk 3 p 8), I (pointI p)],
     partP [I (mulI (tk 3 p 8) (pointI p)), .int .i64 (-1), .int .i64 420],
     nP1 [.int .i64 p],
     iP2 [I (tk 3 p 9), I (pointI p)],
     partP [I (mulI (tk 3 p 9) (pointI p)), .int .i64 (-1), .int .i64 506],
     nP1 [.int .i64 p],
     iP2 [I (tk 3 p 10), I (pointI p)],
     partP [I (mulI (tk 3 p 10) (pointI p)), .int .i64 (-1), .int .i64 600]]) := by kernel_rfl
theorem t9_3_11_leaf (p : Int) (h1 : -17179869184 ≤ p) (h2 : p ≤ 17179869184) : Gives P 30 #[.int .i64 3, .int .i64 p, .int .i64 11] (I (T9 3 p 11)) := by
  have hp : I64 p := by unfold I64; omega
  have k1 : (decide (p ≥ -17179869184)) = true := decide_eq_true (by omega)
  have k2 : (decide (p ≤ 17179869184)) = true := decide_eq_true (by omega)
  exact gives_of_run mo (t9_3_11_run p) (ps_cons k1 (ps_cons k2 (ps_cons (by unfold nP1 I64; omega) (ps_cons ⟨⟨_, rfl⟩, by unfold I64; omega, by unfold I64; omega⟩ (ps_cons hp (ps_cons ⟨⟨_, rfl⟩, _, rfl⟩ (ps_cons ⟨⟨_, rfl⟩, by unfold I64; omega, by unfold I64; omega⟩ (ps_cons hp (ps_cons ⟨⟨_, rfl⟩, _, rfl⟩ (ps_cons ⟨⟨_, rfl⟩, by unfold I64; omega, by unfold I64; omega⟩ (ps_cons hp (ps_cons ⟨⟨_, rfl⟩, _, rfl⟩ (ps_cons ⟨⟨_, rfl⟩, by unfold I64; omega, by unfold I64; omega⟩ (ps_cons hp (ps_cons ⟨⟨_, rfl⟩, _, rfl⟩ (ps_cons ⟨⟨_, rfl⟩, by unfold I64; omega, by unfold I64; omega⟩ (ps_cons hp (ps_cons ⟨⟨_, rfl⟩, _, rfl⟩ (ps_cons ⟨⟨_, rfl⟩, by unfold I64; omega, by unfold I64; omega⟩ (ps_cons hp (ps_cons ⟨⟨_, rfl⟩, _, rfl⟩ (ps_cons ⟨⟨_, rfl⟩, by unfold I64; omega, by unfold I64; omega⟩ (ps_cons hp (ps_cons ⟨⟨_, rfl⟩, _, rfl⟩ (ps_cons ⟨⟨_, rfl⟩, by unfold I64; omega, by unfold I64; omega⟩ (ps_cons hp (ps_cons ⟨⟨_, rfl⟩, _, rfl⟩ (ps_cons ⟨⟨_, rfl⟩, by unfold I64; omega, by unfold I64; omega⟩ (ps_cons hp (ps_cons ⟨⟨_, rfl⟩, _, rfl⟩ (ps_cons ⟨⟨_, rfl⟩, by unfold I64; omega, by unfold I64; omega⟩ (ps_cons hp (ps_cons ⟨⟨_, rfl⟩, _, rfl⟩ (ps_cons ⟨⟨_, rfl⟩, by unfold I64; omega, by unfold I64; omega⟩ (ps_cons hp (ps_cons ⟨⟨_, rfl⟩, _, rfl⟩ (ps_cons ⟨⟨_, rfl⟩, by unfold I64; omega, by unfold I64; omega⟩ ps_nil))))))))))))))))))))))))))))))))))))) rfl
theorem t9_3_12_run (p : Int) : runF P I0 4 30 [.int .i64 3, .int .i64 p, .int .i64 12] (.lit :: (.lit :: (.b true :: (.b true :: [])))) =
  some (I (tk 3 p 12),
    [(decide (p ≥ -17179869184)) = true,
     (decide (p ≤ 17179869184)) = true,
     nP1 [.int .i64 1],
     partP [I (ofI 1), .int .i64 1, .int .i64 6],
     nP1 [.int .i64 p],
     iP2 [I (partI (ofI 1) 1 6), I (pointI p)],
     partP [I (mulI (tk 3 p 0) (pointI p)), .int .i64 (-1), .int .i64 20],
     nP1 [.int .i64 p],
     iP2 [I (tk 3 p 1), I (pointI p)],
     partP [I (mulI (tk 3 p 1) (pointI p)), .int .i64 (-1), .int .i64 42],
     nP1 [.int .i64 p],
     iP2 [I (tk 3 p 2), I (pointI p)],
     partP [I (mulI (tk 3 p 2) (pointI p)), .int .i64 (-1), .int .i64 72],
     nP1 [.int .i64 p],
     iP2 [I (tk 3 p 3), I (pointI p)],
     partP [I (mulI (tk 3 p 3) (pointI p)), .int .i64 (-1), .int .i64 110],
     nP1 [.int .i64 p],
     iP2 [I (tk 3 p 4), I (pointI p)],
     partP [I (mulI (tk 3 p 4) (pointI p)), .int .i64 (-1), .int .i64 156],
     nP1 [.int .i64 p],
     iP2 [I (tk 3 p 5), I (pointI p)],
     partP [I (mulI (tk 3 p 5) (pointI p)), .int .i64 (-1), .int .i64 210],
     nP1 [.int .i64 p],
     iP2 [I (tk 3 p 6), I (pointI p)],
     partP [I (mulI (tk 3 p 6) (pointI p)), .int .i64 (-1), .int .i64 272],
     nP1 [.int .i64 p],
     iP2 [I (tk 3 p 7), I (pointI p)],
     partP [I (mulI (tk 3 p 7) (pointI p)), .int .i64 (-1), .int .i64 342],
     nP1 [.int .i64 p],
     iP2 [I (tk 3 p 8), I (pointI p)],
     partP [I (mulI (tk 3 p 8) (pointI p)), .int .i64 (-1), .int .i64 420],
     nP1 [.int .i64 p],
     iP2 [I (tk 3 p 9), I (pointI p)],
     partP [I (mulI (tk 3 p 9) (pointI p)), .int .i64 (-1), .int .i64 506],
     nP1 [.int .i64 p],
     iP2 [I (tk 3 p 10), I (pointI p)],
     partP [I (mulI (tk 3 p 10) (pointI p)), .int .i64 (-1), .int .i64 600],
     nP1 [.int .i64 p],
     iP2 [I (tk 3 p 11), I (pointI p)],
     partP [I (mulI (tk 3 p 11) (pointI p)), .int .i64 (-1), .int .i64 702]]) := by kernel_rfl
theorem t9_3_12_leaf (p : Int) (h1 : -17179869184 ≤ p) (h2 : p ≤ 17179869184) : Gives P 30 #[.int .i64 3, .int .i64 p, .int .i64 12] (I (T9 3 p 12)) := by
  have hp : I64 p := by unfold I64; omega
  have k1 : (decide (p ≥ -17179869184)) = true := decide_eq_true (by omega)
  have k2 : (decide (p ≤ 17179869184)) = true := decide_eq_true (by omega)
  exact gives_of_run mo (t9_3_12_run p) (ps_cons k1 (ps_cons k2 (ps_cons (by unfold nP1 I64; omega) (ps_cons ⟨⟨_, rfl⟩, by unfold I64; omega, by unfold I64; omega⟩ (ps_cons hp (ps_cons ⟨⟨_, rfl⟩, _, rfl⟩ (ps_cons ⟨⟨_, rfl⟩, by unfold I64; omega, by unfold I64; omega⟩ (ps_cons hp (ps_cons ⟨⟨_, rfl⟩, _, rfl⟩ (ps_cons ⟨⟨_, rfl⟩, by unfold I64; omega, by unfold I64; omega⟩ (ps_cons hp (ps_cons ⟨⟨_, rfl⟩, _, rfl⟩ (ps_cons ⟨⟨_, rfl⟩, by unfold I64; omega, by unfold I64; omega⟩ (ps_cons hp (ps_cons ⟨⟨_, rfl⟩, _, rfl⟩ (ps_cons ⟨⟨_, rfl⟩, by unfold I64; omega, by unfold I64; omega⟩ (ps_cons hp (ps_cons ⟨⟨_, rfl⟩, _, rfl⟩ (ps_cons ⟨⟨_, rfl⟩, by unfold I64; omega, by unfold I64; omega⟩ (ps_cons hp (ps_cons ⟨⟨_, rfl⟩, _, rfl⟩ (ps_cons ⟨⟨_, rfl⟩, by unfold I64; omega, by unfold I64; omega⟩ (ps_cons hp (ps_cons ⟨⟨_, rfl⟩, _, rfl⟩ (ps_cons ⟨⟨_, rfl⟩, by unfold I64; omega, by unfold I64; omega⟩ (ps_cons hp (ps_cons ⟨⟨_, rfl⟩, _, rfl⟩ (ps_cons ⟨⟨_, rfl⟩, by unfold I64; omega, by unfold I64; omega⟩ (ps_cons hp (ps_cons ⟨⟨_, rfl⟩, _, rfl⟩ (ps_cons ⟨⟨_, rfl⟩, by unfold I64; omega, by unfold I64; omega⟩ (ps_cons hp (ps_cons ⟨⟨_, rfl⟩, _, rfl⟩ (ps_cons ⟨⟨_, rfl⟩, by unfold I64; omega, by unfold I64; omega⟩ (ps_cons hp (ps_cons ⟨⟨_, rfl⟩, _, rfl⟩ (ps_cons ⟨⟨_, rfl⟩, by unfold I64; omega, by unfold I64; omega⟩ (ps_cons hp (ps_cons ⟨⟨_, rfl⟩, _, rfl⟩ (ps_cons ⟨⟨_, rfl⟩, by unfold I64; omega, by unfold I64; omega⟩ ps_nil)))))))))))))))))))))))))))))))))))))))) rfl
theorem t9_3_13_run (p : Int) : runF P I0 4 30 [.int .i64 3, .int .i64 p, .int .i64 13] (.lit :: (.lit :: (.b true :: (.b true :: [])))) =
  some (I (tk 3 p 13),
    [(decide (p ≥ -17179869184)) = true,
     (decide (p ≤ 17179869184)) = true,
     nP1 [.int .i64 1],
     partP [I (ofI 1), .int .i64 1, .int .i64 6],
     nP1 [.int .i64 p],
     iP2 [I (partI (ofI 1) 1 6), I (pointI p)],
     partP [I (mulI (tk 3 p 0) (pointI p)), .int .i64 (-1), .int .i64 20],
     nP1 [.int .i64 p],
     iP2 [I (tk 3 p 1), I (pointI p)],
     partP [I (mulI (tk 3 p 1) (pointI p)), .int .i64 (-1), .int .i64 42],
     nP1 [.int .i64 p],
     iP2 [I (tk 3 p 2), I (pointI p)],
     partP [I (mulI (tk 3 p 2) (pointI p)), .int .i64 (-1), .int .i64 72],
     nP1 [.int .i64 p],
     iP2 [I (tk 3 p 3), I (pointI p)],
     partP [I (mulI (tk 3 p 3) (pointI p)), .int .i64 (-1), .int .i64 110],
     nP1 [.int .i64 p],
     iP2 [I (tk 3 p 4), I (pointI p)],
     partP [I (mulI (tk 3 p 4) (pointI p)), .int .i64 (-1), .int .i64 156],
     nP1 [.int .i64 p],
     iP2 [I (tk 3 p 5), I (pointI p)],
     partP [I (mulI (tk 3 p 5) (pointI p)), .int .i64 (-1), .int .i64 210],
     nP1 [.int .i64 p],
     iP2 [I (tk 3 p 6), I (pointI p)],
     partP [I (mulI (tk 3 p 6) (pointI p)), .int .i64 (-1), .int .i64 272],
     nP1 [.int .i64 p],
     iP2 [I (tk 3 p 7), I (pointI p)],
     partP [I (mulI (tk 3 p 7) (pointI p)), .int .i64 (-1), .int .i64 342],
     nP1 [.int .i64 p],
     iP2 [I (tk 3 p 8), I (pointI p)],
     partP [I (mulI (tk 3 p 8) (pointI p)), .int .i64 (-1), .int .i64 420],
     nP1 [.int .i64 p],
     iP2 [I (tk 3 p 9), I (pointI p)],
     partP [I (mulI (tk 3 p 9) (pointI p)), .int .i64 (-1), .int .i64 506],
     nP1 [.int .i64 p],
     iP2 [I (tk 3 p 10), I (pointI p)],
     partP [I (mulI (tk 3 p 10) (pointI p)), .int .i64 (-1), .int .i64 600],
     nP1 [.int .i64 p],
     iP2 [I (tk 3 p 11), I (pointI p)],
     partP [I (mulI (tk 3 p 11) (pointI p)), .int .i64 (-1), .int .i64 702],
     nP1 [.int .i64 p],
     iP2 [I (tk 3 p 12), I (pointI p)],
     partP [I (mulI (tk 3 p 12) (pointI p)), .int .i64 (-1), .int .i64 812]]) := by kernel_rfl
theorem t9_3_13_leaf (p : Int) (h1 : -17179869184 ≤ p) (h2 : p ≤ 17179869184) : Gives P 30 #[.int .i64 3, .int .i64 p, .int .i64 13] (I (T9 3 p 13)) := by
  have hp : I64 p := by unfold I64; omega
  have k1 : (decide (p ≥ -17179869184)) = true := decide_eq_true (by omega)
  have k2 : (decide (p ≤ 17179869184)) = true := decide_eq_true (by omega)
  exact gives_of_run mo (t9_3_13_run p) (ps_cons k1 (ps_cons k2 (ps_cons (by unfold nP1 I64; omega) (ps_cons ⟨⟨_, rfl⟩, by unfold I64; omega, by unfold I64; omega⟩ (ps_cons hp (ps_cons ⟨⟨_, rfl⟩, _, rfl⟩ (ps_cons ⟨⟨_, rfl⟩, by unfold I64; omega, by unfold I64; omega⟩ (ps_cons hp (ps_cons ⟨⟨_, rfl⟩, _, rfl⟩ (ps_cons ⟨⟨_, rfl⟩, by unfold I64; omega, by unfold I64; omega⟩ (ps_cons hp (ps_cons ⟨⟨_, rfl⟩, _, rfl⟩ (ps_cons ⟨⟨_, rfl⟩, by unfold I64; omega, by unfold I64; omega⟩ (ps_cons hp (ps_cons ⟨⟨_, rfl⟩, _, rfl⟩ (ps_cons ⟨⟨_, rfl⟩, by unfold I64; omega, by unfold I64; omega⟩ (ps_cons hp (ps_cons ⟨⟨_, rfl⟩, _, rfl⟩ (ps_cons ⟨⟨_, rfl⟩, by unfold I64; omega, by unfold I64; omega⟩ (ps_cons hp (ps_cons ⟨⟨_, rfl⟩, _, rfl⟩ (ps_cons ⟨⟨_, rfl⟩, by unfold I64; omega, by unfold I64; omega⟩ (ps_cons hp (ps_cons ⟨⟨_, rfl⟩, _, rfl⟩ (ps_cons ⟨⟨_, rfl⟩, by unfold I64; omega, by unfold I64; omega⟩ (ps_cons hp (ps_cons ⟨⟨_, rfl⟩, _, rfl⟩ (ps_cons ⟨⟨_, rfl⟩, by unfold I64; omega, by unfold I64; omega⟩ (ps_cons hp (ps_cons ⟨⟨_, rfl⟩, _, rfl⟩ (ps_cons ⟨⟨_, rfl⟩, by unfold I64; omega, by unfold I64; omega⟩ (ps_cons hp (ps_cons ⟨⟨_, rfl⟩, _, rfl⟩ (ps_cons ⟨⟨_, rfl⟩, by unfold I64; omega, by unfold I64; omega⟩ (ps_cons hp (ps_cons ⟨⟨_, rfl⟩, _, rfl⟩ (ps_cons ⟨⟨_, rfl⟩, by unfold I64; omega, by unfold I64; omega⟩ (ps_cons hp (ps_cons ⟨⟨_, rfl⟩, _, rfl⟩ (ps_cons ⟨⟨_, rfl⟩, by unfold I64; omega, by unfold I64; omega⟩ (ps_cons hp (ps_cons ⟨⟨_, rfl⟩, _, rfl⟩ (ps_cons ⟨⟨_, rfl⟩, by unfold I64; omega, by unfold I64; omega⟩ ps_nil))))))))))))))))))))))))))))))))))))))))))) rfl
theorem t9_3_14_run (p : Int) : runF P I0 4 30 [.int .i64 3, .int .i64 p, .int .i64 14] (.lit :: (.lit :: (.b true :: (.b true :: [])))) =
  some (I (tk 3 p 14),
    [(decide (p ≥ -17179869184)) = true,
     (decide (p ≤ 17179869184)) = true,
     nP1 [.int .i64 1],
     partP [I (ofI 1), .int .i64 1, .int .i64 6],
     nP1 [.int .i64 p],
     iP2 [I (partI (ofI 1) 1 6), I (pointI p)],
     partP [I (mulI (tk 3 p 0) (pointI p)), .int .i64 (-1), .int .i64 20],
     nP1 [.int .i64 p],
     iP2 [I (tk 3 p 1), I (pointI p)],
     partP [I (mulI (tk 3 p 1) (pointI p)), .int .i64 (-1), .int .i64 42],
     nP1 [.int .i64 p],
     iP2 [I (tk 3 p 2), I (pointI p)],
     partP [I (mulI (tk 3 p 2) (pointI p)), .int .i64 (-1), .int .i64 72],
     nP1 [.int .i64 p],
     iP2 [I (tk 3 p 3), I (pointI p)],
     partP [I (mulI (tk 3 p 3) (pointI p)), .int .i64 (-1), .int .i64 110],
     nP1 [.int .i64 p],
     iP2 [I (tk 3 p 4), I (pointI p)],
     partP [I (mulI (tk 3 p 4) (pointI p)), .int .i64 (-1), .int .i64 156],
     nP1 [.int .i64 p],
     iP2 [I (tk 3 p 5), I (pointI p)],
     partP [I (mulI (tk 3 p 5) (pointI p)), .int .i64 (-1), .int .i64 210],
     nP1 [.int .i64 p],
     iP2 [I (tk 3 p 6), I (pointI p)],
     partP [I (mulI (tk 3 p 6) (pointI p)), .int .i64 (-1), .int .i64 272],
     nP1 [.int .i64 p],
     iP2 [I (tk 3 p 7), I (pointI p)],
     partP [I (mulI (tk 3 p 7) (pointI p)), .int .i64 (-1), .int .i64 342],
     nP1 [.int .i64 p],
     iP2 [I (tk 3 p 8), I (pointI p)],
     partP [I (mulI (tk 3 p 8) (pointI p)), .int .i64 (-1), .int .i64 420],
     nP1 [.int .i64 p],
     iP2 [I (tk 3 p 9), I (pointI p)],
     partP [I (mulI (tk 3 p 9) (pointI p)), .int .i64 (-1), .int .i64 506],
     nP1 [.int .i64 p],
     iP2 [I (tk 3 p 10), I (pointI p)],
     partP [I (mulI (tk 3 p 10) (pointI p)), .int .i64 (-1), .int .i64 600],
     nP1 [.int .i64 p],
     iP2 [I (tk 3 p 11), I (pointI p)],
     partP [I (mulI (tk 3 p 11) (pointI p)), .int .i64 (-1), .int .i64 702],
     nP1 [.int .i64 p],
     iP2 [I (tk 3 p 12), I (pointI p)],
     partP [I (mulI (tk 3 p 12) (pointI p)), .int .i64 (-1), .int .i64 812],
     nP1 [.int .i64 p],
     iP2 [I (tk 3 p 13), I (pointI p)],
     partP [I (mulI (tk 3 p 13) (pointI p)), .int .i64 (-1), .int .i64 930]]) := by kernel_rfl
theorem t9_3_14_leaf (p : Int) (h1 : -17179869184 ≤ p) (h2 : p ≤ 17179869184) : Gives P 30 #[.int .i64 3, .int .i64 p, .int .i64 14] (I (T9 3 p 14)) := by
  have hp : I64 p := by unfold I64; omega
  have k1 : (decide (p ≥ -17179869184)) = true := decide_eq_true (by omega)
  have k2 : (decide (p ≤ 17179869184)) = true := decide_eq_true (by omega)
  exact gives_of_run mo (t9_3_14_run p) (ps_cons k1 (ps_cons k2 (ps_cons (by unfold nP1 I64; omega) (ps_cons ⟨⟨_, rfl⟩, by unfold I64; omega, by unfold I64; omega⟩ (ps_cons hp (ps_cons ⟨⟨_, rfl⟩, _, rfl⟩ (ps_cons ⟨⟨_, rfl⟩, by unfold I64; omega, by unfold I64; omega⟩ (ps_cons hp (ps_cons ⟨⟨_, rfl⟩, _, rfl⟩ (ps_cons ⟨⟨_, rfl⟩, by unfold I64; omega, by unfold I64; omega⟩ (ps_cons hp (ps_cons ⟨⟨_, rfl⟩, _, rfl⟩ (ps_cons ⟨⟨_, rfl⟩, by unfold I64; omega, by unfold I64; omega⟩ (ps_cons hp (ps_cons ⟨⟨_, rfl⟩, _, rfl⟩ (ps_cons ⟨⟨_, rfl⟩, by unfold I64; omega, by unfold I64; omega⟩ (ps_cons hp (ps_cons ⟨⟨_, rfl⟩, _, rfl⟩ (ps_cons ⟨⟨_, rfl⟩, by unfold I64; omega, by unfold I64; omega⟩ (ps_cons hp (ps_cons ⟨⟨_, rfl⟩, _, rfl⟩ (ps_cons ⟨⟨_, rfl⟩, by unfold I64; omega, by unfold I64; omega⟩ (ps_cons hp (ps_cons ⟨⟨_, rfl⟩, _, rfl⟩ (ps_cons ⟨⟨_, rfl⟩, by unfold I64; omega, by unfold I64; omega⟩ (ps_cons hp (ps_cons ⟨⟨_, rfl⟩, _, rfl⟩ (ps_cons ⟨⟨_, rfl⟩, by unfold I64; omega, by unfold I64; omega⟩ (ps_cons hp (ps_cons ⟨⟨_, rfl⟩, _, rfl⟩ (ps_cons ⟨⟨_, rfl⟩, by unfold I64; omega, by unfold I64; omega⟩ (ps_cons hp (ps_cons ⟨⟨_, rfl⟩, _, rfl⟩ (ps_cons ⟨⟨_, rfl⟩, by unfold I64; omega, by unfold I64; omega⟩ (ps_cons hp (ps_cons ⟨⟨_, rfl⟩, _, rfl⟩ (ps_cons ⟨⟨_, rfl⟩, by unfold I64; omega, by unfold I64; omega⟩ (ps_cons hp (ps_cons ⟨⟨_, rfl⟩, _, rfl⟩ (ps_cons ⟨⟨_, rfl⟩, by unfold I64; omega, by unfold I64; omega⟩ (ps_cons hp (ps_cons ⟨⟨_, rfl⟩, _, rfl⟩ (ps_cons ⟨⟨_, rfl⟩, by unfold I64; omega, by unfold I64; omega⟩ (ps_cons hp (ps_cons ⟨⟨_, rfl⟩, _, rfl⟩ (ps_cons ⟨⟨_, rfl⟩, by unfold I64; omega, by unfold I64; omega⟩ ps_nil)))))))))))))))))))))))))))))))))))))))))))))) rfl
theorem t9_3_15_run (p : Int) : runF P I0 2 30 [.int .i64 3, .int .i64 p, .int .i64 15] (.lit :: (.lit :: (.b true :: (.b true :: [])))) =
  some (I (⟨0, 0, true⟩),
    [(decide (p ≥ -17179869184)) = true,
     (decide (p ≤ 17179869184)) = true]) := by kernel_rfl
theorem t9_3_15_leaf (p : Int) (h1 : -17179869184 ≤ p) (h2 : p ≤ 17179869184) : Gives P 30 #[.int .i64 3, .int .i64 p, .int .i64 15] (I (T9 3 p 15)) := by
  have hp : I64 p := by unfold I64; omega
  have k1 : (decide (p ≥ -17179869184)) = true := decide_eq_true (by omega)
  have k2 : (decide (p ≤ 17179869184)) = true := decide_eq_true (by omega)
  exact gives_of_run mo (t9_3_15_run p) (ps_cons k1 (ps_cons k2 ps_nil)) rfl
theorem t9_gives (args : List Value) (h : te9P args) : Gives P 30 args.toArray (te9V args) := by
  unfold te9P at h
  split at h
  · rename_i k p n
    obtain ⟨h5, h6, h1, h2, h3, h4⟩ := h
    show Gives P _ #[.int .i64 k, .int .i64 p, .int .i64 n] (I (T9 k p n))
    have hk : k = 0 ∨ k = 1 ∨ k = 2 ∨ k = 3 := by omega
    have hn : n = 0 ∨ n = 1 ∨ n = 2 ∨ n = 3 ∨ n = 4 ∨ n = 5 ∨ n = 6 ∨ n = 7 ∨ n = 8 ∨ n = 9 ∨ n = 10 ∨ n = 11 ∨ n = 12 ∨ n = 13 ∨ n = 14 ∨ n = 15 := by omega
    rcases hk with rfl | rfl | rfl | rfl
    · rcases hn with rfl | rfl | rfl | rfl | rfl | rfl | rfl | rfl | rfl | rfl | rfl | rfl | rfl | rfl | rfl | rfl
      · exact t9_0_0_leaf p h1 h2
      · exact t9_0_1_leaf p h1 h2
      · exact t9_0_2_leaf p h1 h2
      · exact t9_0_3_leaf p h1 h2
      · exact t9_0_4_leaf p h1 h2
      · exact t9_0_5_leaf p h1 h2
      · exact t9_0_6_leaf p h1 h2
      · exact t9_0_7_leaf p h1 h2
      · exact t9_0_8_leaf p h1 h2
      · exact t9_0_9_leaf p h1 h2
      · exact t9_0_10_leaf p h1 h2
      · exact t9_0_11_leaf p h1 h2
      · exact t9_0_12_leaf p h1 h2
      · exact t9_0_13_leaf p h1 h2
      · exact t9_0_14_leaf p h1 h2
      · exact t9_0_15_leaf p h1 h2
    · rcases hn with rfl | rfl | rfl | rfl | rfl | rfl | rfl | rfl | rfl | rfl | rfl | rfl | rfl | rfl | rfl | rfl
      · exact t9_1_0_leaf p h1 h2
      · exact t9_1_1_leaf p h1 h2
      · exact t9_1_2_leaf p h1 h2
      · exact t9_1_3_leaf p h1 h2
      · exact t9_1_4_leaf p h1 h2
      · exact t9_1_5_leaf p h1 h2
      · exact t9_1_6_leaf p h1 h2
      · exact t9_1_7_leaf p h1 h2
      · exact t9_1_8_leaf p h1 h2
      · exact t9_1_9_leaf p h1 h2
      · exact t9_1_10_leaf p h1 h2
      · exact t9_1_11_leaf p h1 h2
      · exact t9_1_12_leaf p h1 h2
      · exact t9_1_13_leaf p h1 h2
      · exact t9_1_14_leaf p h1 h2
      · exact t9_1_15_leaf p h1 h2
    · rcases hn with rfl | rfl | rfl | rfl | rfl | rfl | rfl | rfl | rfl | rfl | rfl | rfl | rfl | rfl | rfl | rfl
      · exact t9_2_0_leaf p h1 h2
      · exact t9_2_1_leaf p h1 h2
      · exact t9_2_2_leaf p h1 h2
      · exact t9_2_3_leaf p h1 h2
      · exact t9_2_4_leaf p h1 h2
      · exact t9_2_5_leaf p h1 h2
      · exact t9_2_6_leaf p h1 h2
      · exact t9_2_7_leaf p h1 h2
      · exact t9_2_8_leaf p h1 h2
      · exact t9_2_9_leaf p h1 h2
      · exact t9_2_10_leaf p h1 h2
      · exact t9_2_11_leaf p h1 h2
      · exact t9_2_12_leaf p h1 h2
      · exact t9_2_13_leaf p h1 h2
      · exact t9_2_14_leaf p h1 h2
      · exact t9_2_15_leaf p h1 h2
    · rcases hn with rfl | rfl | rfl | rfl | rfl | rfl | rfl | rfl | rfl | rfl | rfl | rfl | rfl | rfl | rfl | rfl
      · exact t9_3_0_leaf p h1 h2
      · exact t9_3_1_leaf p h1 h2
      · exact t9_3_2_leaf p h1 h2
      · exact t9_3_3_leaf p h1 h2
      · exact t9_3_4_leaf p h1 h2
      · exact t9_3_5_leaf p h1 h2
      · exact t9_3_6_leaf p h1 h2
      · exact t9_3_7_leaf p h1 h2
      · exact t9_3_8_leaf p h1 h2
      · exact t9_3_9_leaf p h1 h2
      · exact t9_3_10_leaf p h1 h2
      · exact t9_3_11_leaf p h1 h2
      · exact t9_3_12_leaf p h1 h2
      · exact t9_3_13_leaf p h1 h2
      · exact t9_3_14_leaf p h1 h2
      · exact t9_3_15_leaf p h1 h2
  · exact h.elim
noncomputable def cTerm9 : Ctr P := ⟨30, te9P, te9V, t9_gives⟩
def k4 (k : Int) : Int := (IntKind.i64.wrap (k.tmod 4 + 4)).tmod 4
def m14 (m : Int) : Int := (IntKind.i64.wrap (m.tmod 14 + 14)).tmod 14
def p16 (n : Int) : Int := inS 17179869184 n
def n1 (m : Int) : Int := IntKind.i64.wrap (m14 m + 1)
def d9 (k m : Int) : Int := IntKind.i64.wrap ((IntKind.i64.wrap (IntKind.i64.wrap (k4 k + (IntKind.i64.wrap (2 * (m14 m)))) + 1)) * (IntKind.i64.wrap (IntKind.i64.wrap (k4 k + (IntKind.i64.wrap (2 * (m14 m)))) + 2)))
theorem k4_in (k : Int) : ∃ j : Nat, j ≤ 3 ∧ k4 k = j := by
  have w := in_math (n := k) (w := 4) (by decide) (by decide)
  have r1 := Int.emod_nonneg k (show (4 : Int) ≠ 0 by decide)
  have r2 := Int.emod_lt_of_pos k (show (0 : Int) < 4 by decide)
  unfold k4
  rw [w.1, w.2]
  exact ⟨(k % 4).toNat, by omega, by omega⟩
theorem m14_in (m : Int) : ∃ j : Nat, j ≤ 13 ∧ m14 m = j := by
  have w := in_math (n := m) (w := 14) (by decide) (by decide)
  have r1 := Int.emod_nonneg m (show (14 : Int) ≠ 0 by decide)
  have r2 := Int.emod_lt_of_pos m (show (0 : Int) < 14 by decide)
  unfold m14
  rw [w.1, w.2]
  exact ⟨(m % 14).toNat, by omega, by omega⟩
theorem T9_tk (k n : Nat) (p : Int) (h : n ≤ 14) : T9 k p n = tk k p n := by
  unfold T9
  rw [decide_eq_true (by omega : (n : Int) ≤ 14)]
  rfl
theorem tk_zero : ∀ k, k < 4 → ∀ n, n < 14 → (tk k 0 (n + 1)).lo = 0 ∧ (tk k 0 (n + 1)).hi = 0 ∧ (tk k 0 (n + 1)).bad = false := by decide +kernel
theorem same9 {x y : Iv} (h : x = y) : ((x.lo == y.lo) && ((x.hi == y.hi) && (x.bad == y.bad))) = true := by rw [h]; simp
structure Trm (k n m : Int) : Prop where
  a : te9P [.int .i64 (k4 k), .int .i64 (p16 n), .int .i64 (m14 m)]
  b : te9P [.int .i64 (k4 k), .int .i64 (p16 n), .int .i64 (n1 m)]
  c : te9P [.int .i64 (k4 k), .int .i64 0, .int .i64 (n1 m)]
  u : te9P [.int .i64 (k4 k), .int .i64 (p16 n), .int .i64 0]
  v : te9P [.int .i64 (k4 k), .int .i64 1, .int .i64 0]
  w : te9P [.int .i64 (k4 k), .int .i64 (p16 n), .int .i64 15]
  i : I64 (p16 n)
  d : I64 (d9 k m)
  e : T9 (k4 k) (p16 n) (n1 m) = partI (mulI (T9 (k4 k) (p16 n) (m14 m)) (pointI (p16 n))) (-1) (d9 k m)
  f : fineL [T9 (k4 k) (p16 n) (m14 m), T9 (k4 k) (p16 n) (n1 m)] = true
  g : T9 (k4 k) (p16 n) 0 = T9 (k4 k) 1 0
  z : (((T9 (k4 k) 0 (n1 m)).lo == 0) && (((T9 (k4 k) 0 (n1 m)).hi == 0) && (((T9 (k4 k) 0 (n1 m)).bad) == false))) = true
  y : (T9 (k4 k) (p16 n) 15).bad = true
theorem trm (k n m : Int) : Trm k n m := by
  obtain ⟨q, hq, ek⟩ := k4_in k
  obtain ⟨j, hj, em⟩ := m14_in m
  have hp := inS_in n (m := 17179869184) (by decide)
  have h1 : -17179869184 ≤ p16 n := hp.1
  have h2 : p16 n ≤ 17179869184 := hp.2
  have en : n1 m = ((j + 1 : Nat) : Int) := by unfold n1; rw [em, wr (by omega) (by omega)]; omega
  have ed : d9 k m = pdI q j := by
    have s := pdI_small (k := q) (n := j) hq (by omega)
    unfold I64 at s
    unfold d9
    rw [ek, em, wr (n := 2 * (j : Int)) (by omega) (by omega), wr (n := (q : Int) + 2 * (j : Int)) (by omega) (by omega), wr (n := (q : Int) + 2 * (j : Int) + 1) (by omega) (by omega), wr (n := (q : Int) + 2 * (j : Int) + 2) (by omega) (by omega)]
    exact wr s.1 s.2
  have g1 : T9 q (p16 n) j = tk q (p16 n) j := T9_tk q j (p16 n) (by omega)
  have g2 : T9 q (p16 n) ((j + 1 : Nat) : Int) = tk q (p16 n) (j + 1) := T9_tk q (j + 1) (p16 n) (by omega)
  have g3 : T9 q 0 ((j + 1 : Nat) : Int) = tk q 0 (j + 1) := T9_tk q (j + 1) 0 (by omega)
  have fc := tk_facts hq h1 h2
  have tz := tk_zero q (by omega) j (by omega)
  refine ⟨?_, ?_, ?_, ?_, ?_, ?_, ?_, ?_, ?_, ?_, ?_, ?_, ?_⟩
  · unfold te9P; omega
  · unfold te9P; omega
  · unfold te9P; omega
  · unfold te9P; omega
  · unfold te9P; omega
  · unfold te9P; omega
  · unfold I64; omega
  · rw [ed]; exact pdI_small hq (by omega)
  · rw [ek, em, en, ed, g1, g2]; rfl
  · rw [ek, em, en, g1, g2]; exact fl1 (fc j (by omega)).1.f (fl1 (fc (j + 1) (by omega)).1.f rfl)
  · rw [ek]; rfl
  · rw [ek, en, g3, tz.1, tz.2.1, tz.2.2]; rfl
  · rfl
noncomputable def I1 : Env P := ⟨⟨[cWakes, cIn, cTerm9] ++ R5.rf5C, [rFine]⟩, [], 20, []⟩
theorem st0_run (k n m : Int) : runF P I1 1 8 [.int .i64 k, .int .i64 n, .int .i64 m] (.b true :: (.lit :: (.b true :: (.b true :: (.b true :: (.b true :: [])))))) =
  some (.bool true,
    [inP [.int .i64 n, .int .i64 17179869184],
     te9P [.int .i64 (k4 k), .int .i64 (p16 n), .int .i64 (m14 m)],
     te9P [.int .i64 (k4 k), .int .i64 (p16 n), .int .i64 (n1 m)],
     nP1 [.int .i64 (p16 n)],
     iP2 [I (T9 (k4 k) (p16 n) (m14 m)), I (pointI (p16 n))],
     partP [I (mulI (T9 (k4 k) (p16 n) (m14 m)) (pointI (p16 n))), .int .i64 (-1), .int .i64 (d9 k m)],
     te9P [.int .i64 (k4 k), .int .i64 0, .int .i64 (n1 m)],
     (((T9 (k4 k) (p16 n) (n1 m)).lo == (partI (mulI (T9 (k4 k) (p16 n) (m14 m)) (pointI (p16 n))) (-1) (d9 k m)).lo) && (((T9 (k4 k) (p16 n) (n1 m)).hi == (partI (mulI (T9 (k4 k) (p16 n) (m14 m)) (pointI (p16 n))) (-1) (d9 k m)).hi) && (((T9 (k4 k) (p16 n) (n1 m)).bad) == ((partI (mulI (T9 (k4 k) (p16 n) (m14 m)) (pointI (p16 n))) (-1) (d9 k m)).bad)))) = true,
     fineP [ivs [T9 (k4 k) (p16 n) (m14 m), T9 (k4 k) (p16 n) (n1 m)]],
     (fineL [T9 (k4 k) (p16 n) (m14 m), T9 (k4 k) (p16 n) (n1 m)]) = true,
     te9P [.int .i64 (k4 k), .int .i64 (p16 n), .int .i64 0],
     te9P [.int .i64 (k4 k), .int .i64 1, .int .i64 0],
     (((T9 (k4 k) (p16 n) 0).lo == (T9 (k4 k) 1 0).lo) && (((T9 (k4 k) (p16 n) 0).hi == (T9 (k4 k) 1 0).hi) && (((T9 (k4 k) (p16 n) 0).bad) == ((T9 (k4 k) 1 0).bad)))) = true,
     (((T9 (k4 k) 0 (n1 m)).lo == 0) && (((T9 (k4 k) 0 (n1 m)).hi == 0) && (((T9 (k4 k) 0 (n1 m)).bad) == false))) = true,
     te9P [.int .i64 (k4 k), .int .i64 (p16 n), .int .i64 15],
     ((T9 (k4 k) (p16 n) 15).bad) = true,
     wakesP []]) := by kernel_rfl
theorem st0_leaf (k n m : Int)  (q0 : (((T9 (k4 k) (p16 n) (n1 m)).lo == (partI (mulI (T9 (k4 k) (p16 n) (m14 m)) (pointI (p16 n))) (-1) (d9 k m)).lo) && (((T9 (k4 k) (p16 n) (n1 m)).hi == (partI (mulI (T9 (k4 k) (p16 n) (m14 m)) (pointI (p16 n))) (-1) (d9 k m)).hi) && (((T9 (k4 k) (p16 n) (n1 m)).bad) == ((partI (mulI (T9 (k4 k) (p16 n) (m14 m)) (pointI (p16 n))) (-1) (d9 k m)).bad)))) = true) (q1 : (fineL [T9 (k4 k) (p16 n) (m14 m), T9 (k4 k) (p16 n) (n1 m)]) = true) (q2 : (((T9 (k4 k) (p16 n) 0).lo == (T9 (k4 k) 1 0).lo) && (((T9 (k4 k) (p16 n) 0).hi == (T9 (k4 k) 1 0).hi) && (((T9 (k4 k) (p16 n) 0).bad) == ((T9 (k4 k) 1 0).bad)))) = true) (q3 : (((T9 (k4 k) 0 (n1 m)).lo == 0) && (((T9 (k4 k) 0 (n1 m)).hi == 0) && (((T9 (k4 k) 0 (n1 m)).bad) == false))) = true) (q4 : ((T9 (k4 k) (p16 n) 15).bad) = true) : Gives P 8 #[.int .i64 k, .int .i64 n, .int .i64 m] (.bool true) := by
  have R := st0_run k n m
  refine gives_of_run mo R (ps_cons ⟨by decide, by decide⟩ (ps_cons (trm k n m).a (ps_cons (trm k n m).b (ps_cons (trm k n m).i (ps_cons ⟨⟨_, rfl⟩, _, rfl⟩ (ps_cons ⟨⟨_, rfl⟩, by unfold I64; omega, (trm k n m).d⟩ (ps_cons (trm k n m).c (ps_cons q0 (ps_cons (ivs_ok (by simp)) (ps_cons q1 (ps_cons (trm k n m).u (ps_cons (trm k n m).v (ps_cons q2 (ps_cons q3 (ps_cons (trm k n m).w (ps_cons q4 (ps_cons trivial ps_nil))))))))))))))))) ?_
  rfl
theorem StumpffTerms_all (k n m : Int) : Gives P 8 #[.int .i64 k, .int .i64 n, .int .i64 m] (.bool true) := by
  have q0 : (((T9 (k4 k) (p16 n) (n1 m)).lo == (partI (mulI (T9 (k4 k) (p16 n) (m14 m)) (pointI (p16 n))) (-1) (d9 k m)).lo) && (((T9 (k4 k) (p16 n) (n1 m)).hi == (partI (mulI (T9 (k4 k) (p16 n) (m14 m)) (pointI (p16 n))) (-1) (d9 k m)).hi) && (((T9 (k4 k) (p16 n) (n1 m)).bad) == ((partI (mulI (T9 (k4 k) (p16 n) (m14 m)) (pointI (p16 n))) (-1) (d9 k m)).bad)))) = true := (same9 (trm k n m).e)
  have q1 : (fineL [T9 (k4 k) (p16 n) (m14 m), T9 (k4 k) (p16 n) (n1 m)]) = true := (trm k n m).f
  have q2 : (((T9 (k4 k) (p16 n) 0).lo == (T9 (k4 k) 1 0).lo) && (((T9 (k4 k) (p16 n) 0).hi == (T9 (k4 k) 1 0).hi) && (((T9 (k4 k) (p16 n) 0).bad) == ((T9 (k4 k) 1 0).bad)))) = true := (same9 (trm k n m).g)
  have q3 : (((T9 (k4 k) 0 (n1 m)).lo == 0) && (((T9 (k4 k) 0 (n1 m)).hi == 0) && (((T9 (k4 k) 0 (n1 m)).bad) == false))) = true := (trm k n m).z
  have q4 : ((T9 (k4 k) (p16 n) 15).bad) = true := (trm k n m).y
  exact st0_leaf k n m  q0 q1 q2 q3 q4
end Go.St
