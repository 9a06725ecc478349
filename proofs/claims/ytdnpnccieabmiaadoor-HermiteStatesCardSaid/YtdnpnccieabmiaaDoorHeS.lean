/-
  State.Right, gyreref10.Right: over any bodies. Printed by heT.py.
-/
import Derived.Test.YtdnpnccieabmiaaDoorHeD
set_option maxRecDepth 100000
namespace Go.He
open Go Go.RowKit Go.Sx Go.Nm Go.Wd Go.Qt Go.Proofs
structure Bd where
  x0 : Int
  x1 : Int
  x2 : Int
  v0 : Int
  v1 : Int
  v2 : Int
def Bv (b : Bd) : Value := .agg #[.int .i64 b.x0, .int .i64 b.x1, .int .i64 b.x2, .int .i64 b.v0, .int .i64 b.v1, .int .i64 b.v2]
def rdB : Value → Bd
  | .agg cs => match cs.toList with
    | [.int _ a, .int _ b, .int _ c, .int _ d, .int _ e, .int _ f] => ⟨a, b, c, d, e, f⟩
    | _ => ⟨0, 0, 0, 0, 0, 0⟩
  | _ => ⟨0, 0, 0, 0, 0, 0⟩
def inB (m x : Int) : Bool := decide (-m ≤ x) && decide (x ≤ m)
def vwB (m x y z : Int) : Bool := inB m x && (inB m y && inB m z)
def bB (b : Bd) : Bool := vwB 1048576 b.x0 b.x1 b.x2 && vwB 65536 b.v0 b.v1 b.v2
def allB : Nat → (Nat → Bd) → Bool
  | 0, _ => true
  | n + 1, l => bB (l 0) && allB n fun j => l (j + 1)
theorem inB_iff {m x : Int} : inB m x = true ↔ -m ≤ x ∧ x ≤ m := by unfold inB; simp
theorem vwB_iff {m x y z : Int} : vwB m x y z = true ↔ (-m ≤ x ∧ x ≤ m) ∧ (-m ≤ y ∧ y ≤ m) ∧ -m ≤ z ∧ z ≤ m := by unfold vwB; simp [inB_iff]
theorem allB_iff : ∀ {n : Nat} {l : Nat → Bd}, allB n l = true ↔ ∀ j, j < n → bB (l j) = true
  | 0, l => by simp [allB]
  | n + 1, l => by
    rw [allB, Bool.and_eq_true, allB_iff]
    constructor
    · rintro ⟨h0, h⟩ j hj
      cases j with
      | zero => exact h0
      | succ j => exact h j (by omega)
    · exact fun h => ⟨h 0 (by omega), fun j hj => h (j + 1) (by omega)⟩
def stB (s : Int) : Bool := decide (-1073741824 ≤ s) && decide (s ≤ 1073741824)
def riB (s : Int) (n : Nat) (l : Nat → Bd) : Bool := stB s && (decide (1 ≤ n) && (decide (n ≤ 4) && allB n l))
theorem st_el {P : Program} {f : FuncId} {pre : List Value} {ds : List DV} {ty ty2 sz n : Nat} {el el' : Nat → Value} {own : Bool} {v : Value} (h : GivesD P f (.st pre ⟨ty2, sz, n, el', false⟩ :: ds) v) (he : ∀ j, j < n → el' j = el j) : GivesD P f (.st pre ⟨ty, sz, n, el, own⟩ :: ds) v :=
  fun F m o a W K Q args h1 h2 h3 h4 h5 h6 => h F m o a W K Q args h1 h2 h3 h4 (by
    match args, h5 with
    | _ :: _, ⟨⟨p, hp, w⟩, g3⟩ =>
      refine ⟨⟨p, hp, w.n, w.cap, fun e => (by cases e), ?_⟩, g3⟩
      obtain ⟨cells, ty', fr, hc, _, hel⟩ := w.mem
      refine ⟨cells, ty', fr, hc, fun e => (by cases e), fun j hj => ?_⟩
      show (el' j).cells.size = sz ∧ ∀ i, i < sz → cells[p.off + (j * sz + i)]? = (el' j).cells[i]?
      rw [he j hj]
      exact hel j hj) h6
noncomputable def S0 : Env P := ⟨⟨[], []⟩, [], 20, []⟩
def vwP : List Value → Prop
  | [a, .int .i64 m] => (∃ x y z, a = .agg #[.int .i64 x, .int .i64 y, .int .i64 z]) ∧ (m = 1048576 ∨ m = 65536)
  | _ => False
def vwV : List Value → Value
  | [.agg a, .int _ m] => match a.toList with
    | [.int _ x, .int _ y, .int _ z] => .bool (vwB m x y z)
    | _ => undef
  | _ => undef
theorem va0_leaf (x y z : Int)  (q0 : (decide (x < -1048576)) = true) : Gives P 67 #[.agg #[.int .i64 x, .int .i64 y, .int .i64 z], .int .i64 1048576] (.bool (vwB 1048576 x y z)) := by
  refine gives_of_run (E := S0) (lv := 3) (ds := (lits 8 (.b true :: []))) (v := .bool false) (ps := [(decide (x < -1048576)) = true]) mo (by kernel_rfl) (ps_cons q0 ps_nil) ?_
  have z0 := of_decide_eq_true q0
  have e : vwB 1048576 x y z = false := by
    rw [← Bool.not_eq_true, vwB_iff]; omega
  rw [e]
theorem va1_leaf (x y z : Int)  (q0 : (decide (x < -1048576)) = false) (q1 : (decide (x > 1048576)) = true) : Gives P 67 #[.agg #[.int .i64 x, .int .i64 y, .int .i64 z], .int .i64 1048576] (.bool (vwB 1048576 x y z)) := by
  refine gives_of_run (E := S0) (lv := 3) (ds := (lits 8 (.b false :: (.b true :: [])))) (v := .bool false) (ps := [(decide (x < -1048576)) = false, (decide (x > 1048576)) = true]) mo (by kernel_rfl) (ps_cons q0 (ps_cons q1 ps_nil)) ?_
  have z0 := of_decide_eq_false q0
  have z1 := of_decide_eq_true q1
  have e : vwB 1048576 x y z = false := by
    rw [← Bool.not_eq_true, vwB_iff]; omega
  rw [e]
theorem va2_leaf (x y z : Int)  (q0 : (decide (x < -1048576)) = false) (q1 : (decide (x > 1048576)) = false) (q2 : (decide (y < -1048576)) = true) : Gives P 67 #[.agg #[.int .i64 x, .int .i64 y, .int .i64 z], .int .i64 1048576] (.bool (vwB 1048576 x y z)) := by
  refine gives_of_run (E := S0) (lv := 3) (ds := (lits 8 (.b false :: (.b false :: (.lit :: (.lit :: (.lit :: (.b true :: [])))))))) (v := .bool false) (ps := [(decide (x < -1048576)) = false, (decide (x > 1048576)) = false, (decide (y < -1048576)) = true]) mo (by kernel_rfl) (ps_cons q0 (ps_cons q1 (ps_cons q2 ps_nil))) ?_
  have z0 := of_decide_eq_false q0
  have z1 := of_decide_eq_false q1
  have z2 := of_decide_eq_true q2
  have e : vwB 1048576 x y z = false := by
    rw [← Bool.not_eq_true, vwB_iff]; omega
  rw [e]
theorem va3_leaf (x y z : Int)  (q0 : (decide (x < -1048576)) = false) (q1 : (decide (x > 1048576)) = false) (q2 : (decide (y < -1048576)) = false) (q3 : (decide (y > 1048576)) = true) : Gives P 67 #[.agg #[.int .i64 x, .int .i64 y, .int .i64 z], .int .i64 1048576] (.bool (vwB 1048576 x y z)) := by
  refine gives_of_run (E := S0) (lv := 3) (ds := (lits 8 (.b false :: (.b false :: (.lit :: (.lit :: (.lit :: (.b false :: (.b true :: []))))))))) (v := .bool false) (ps := [(decide (x < -1048576)) = false, (decide (x > 1048576)) = false, (decide (y < -1048576)) = false, (decide (y > 1048576)) = true]) mo (by kernel_rfl) (ps_cons q0 (ps_cons q1 (ps_cons q2 (ps_cons q3 ps_nil)))) ?_
  have z0 := of_decide_eq_false q0
  have z1 := of_decide_eq_false q1
  have z2 := of_decide_eq_false q2
  have z3 := of_decide_eq_true q3
  have e : vwB 1048576 x y z = false := by
    rw [← Bool.not_eq_true, vwB_iff]; omega
  rw [e]
theorem va4_leaf (x y z : Int)  (q0 : (decide (x < -1048576)) = false) (q1 : (decide (x > 1048576)) = false) (q2 : (decide (y < -1048576)) = false) (q3 : (decide (y > 1048576)) = false) (q4 : (decide (z < -1048576)) = true) : Gives P 67 #[.agg #[.int .i64 x, .int .i64 y, .int .i64 z], .int .i64 1048576] (.bool (vwB 1048576 x y z)) := by
  refine gives_of_run (E := S0) (lv := 3) (ds := (lits 8 (.b false :: (.b false :: (.lit :: (.lit :: (.lit :: (.b false :: (.b false :: (.lit :: (.lit :: (.lit :: (.b true :: []))))))))))))) (v := .bool false) (ps := [(decide (x < -1048576)) = false, (decide (x > 1048576)) = false, (decide (y < -1048576)) = false, (decide (y > 1048576)) = false, (decide (z < -1048576)) = true]) mo (by kernel_rfl) (ps_cons q0 (ps_cons q1 (ps_cons q2 (ps_cons q3 (ps_cons q4 ps_nil))))) ?_
  have z0 := of_decide_eq_false q0
  have z1 := of_decide_eq_false q1
  have z2 := of_decide_eq_false q2
  have z3 := of_decide_eq_false q3
  have z4 := of_decide_eq_true q4
  have e : vwB 1048576 x y z = false := by
    rw [← Bool.not_eq_true, vwB_iff]; omega
  rw [e]
theorem va5_leaf (x y z : Int)  (q0 : (decide (x < -1048576)) = false) (q1 : (decide (x > 1048576)) = false) (q2 : (decide (y < -1048576)) = false) (q3 : (decide (y > 1048576)) = false) (q4 : (decide (z < -1048576)) = false) (q5 : (decide (z > 1048576)) = true) : Gives P 67 #[.agg #[.int .i64 x, .int .i64 y, .int .i64 z], .int .i64 1048576] (.bool (vwB 1048576 x y z)) := by
  refine gives_of_run (E := S0) (lv := 3) (ds := (lits 8 (.b false :: (.b false :: (.lit :: (.lit :: (.lit :: (.b false :: (.b false :: (.lit :: (.lit :: (.lit :: (.b false :: (.b true :: [])))))))))))))) (v := .bool false) (ps := [(decide (x < -1048576)) = false, (decide (x > 1048576)) = false, (decide (y < -1048576)) = false, (decide (y > 1048576)) = false, (decide (z < -1048576)) = false, (decide (z > 1048576)) = true]) mo (by kernel_rfl) (ps_cons q0 (ps_cons q1 (ps_cons q2 (ps_cons q3 (ps_cons q4 (ps_cons q5 ps_nil)))))) ?_
  have z0 := of_decide_eq_false q0
  have z1 := of_decide_eq_false q1
  have z2 := of_decide_eq_false q2
  have z3 := of_decide_eq_false q3
  have z4 := of_decide_eq_false q4
  have z5 := of_decide_eq_true q5
  have e : vwB 1048576 x y z = false := by
    rw [← Bool.not_eq_true, vwB_iff]; omega
  rw [e]
theorem va6_leaf (x y z : Int)  (q0 : (decide (x < -1048576)) = false) (q1 : (decide (x > 1048576)) = false) (q2 : (decide (y < -1048576)) = false) (q3 : (decide (y > 1048576)) = false) (q4 : (decide (z < -1048576)) = false) (q5 : (decide (z > 1048576)) = false) : Gives P 67 #[.agg #[.int .i64 x, .int .i64 y, .int .i64 z], .int .i64 1048576] (.bool (vwB 1048576 x y z)) := by
  refine gives_of_run (E := S0) (lv := 3) (ds := (lits 8 (.b false :: (.b false :: (.lit :: (.lit :: (.lit :: (.b false :: (.b false :: (.lit :: (.lit :: (.lit :: (.b false :: (.b false :: [])))))))))))))) (v := .bool true) (ps := [(decide (x < -1048576)) = false, (decide (x > 1048576)) = false, (decide (y < -1048576)) = false, (decide (y > 1048576)) = false, (decide (z < -1048576)) = false, (decide (z > 1048576)) = false]) mo (by kernel_rfl) (ps_cons q0 (ps_cons q1 (ps_cons q2 (ps_cons q3 (ps_cons q4 (ps_cons q5 ps_nil)))))) ?_
  have z0 := of_decide_eq_false q0
  have z1 := of_decide_eq_false q1
  have z2 := of_decide_eq_false q2
  have z3 := of_decide_eq_false q3
  have z4 := of_decide_eq_false q4
  have z5 := of_decide_eq_false q5
  have e : vwB 1048576 x y z = true := by
    exact vwB_iff.2 ⟨⟨by omega, by omega⟩, ⟨by omega, by omega⟩, by omega, by omega⟩
  rw [e]
theorem va_all (x y z : Int) : Gives P 67 #[.agg #[.int .i64 x, .int .i64 y, .int .i64 z], .int .i64 1048576] (.bool (vwB 1048576 x y z)) := by
  cases q0 : (decide (x < -1048576)) with
  | true =>
    exact va0_leaf x y z  q0
  | false =>
    cases q1 : (decide (x > 1048576)) with
    | true =>
      exact va1_leaf x y z  q0 q1
    | false =>
      cases q2 : (decide (y < -1048576)) with
      | true =>
        exact va2_leaf x y z  q0 q1 q2
      | false =>
        cases q3 : (decide (y > 1048576)) with
        | true =>
          exact va3_leaf x y z  q0 q1 q2 q3
        | false =>
          cases q4 : (decide (z < -1048576)) with
          | true =>
            exact va4_leaf x y z  q0 q1 q2 q3 q4
          | false =>
            cases q5 : (decide (z > 1048576)) with
            | true =>
              exact va5_leaf x y z  q0 q1 q2 q3 q4 q5
            | false =>
              exact va6_leaf x y z  q0 q1 q2 q3 q4 q5
theorem vb0_leaf (x y z : Int)  (q0 : (decide (x < -65536)) = true) : Gives P 67 #[.agg #[.int .i64 x, .int .i64 y, .int .i64 z], .int .i64 65536] (.bool (vwB 65536 x y z)) := by
  refine gives_of_run (E := S0) (lv := 3) (ds := (lits 8 (.b true :: []))) (v := .bool false) (ps := [(decide (x < -65536)) = true]) mo (by kernel_rfl) (ps_cons q0 ps_nil) ?_
  have z0 := of_decide_eq_true q0
  have e : vwB 65536 x y z = false := by
    rw [← Bool.not_eq_true, vwB_iff]; omega
  rw [e]
theorem vb1_leaf (x y z : Int)  (q0 : (decide (x < -65536)) = false) (q1 : (decide (x > 65536)) = true) : Gives P 67 #[.agg #[.int .i64 x, .int .i64 y, .int .i64 z], .int .i64 65536] (.bool (vwB 65536 x y z)) := by
  refine gives_of_run (E := S0) (lv := 3) (ds := (lits 8 (.b false :: (.b true :: [])))) (v := .bool false) (ps := [(decide (x < -65536)) = false, (decide (x > 65536)) = true]) mo (by kernel_rfl) (ps_cons q0 (ps_cons q1 ps_nil)) ?_
  have z0 := of_decide_eq_false q0
  have z1 := of_decide_eq_true q1
  have e : vwB 65536 x y z = false := by
    rw [← Bool.not_eq_true, vwB_iff]; omega
  rw [e]
theorem vb2_leaf (x y z : Int)  (q0 : (decide (x < -65536)) = false) (q1 : (decide (x > 65536)) = false) (q2 : (decide (y < -65536)) = true) : Gives P 67 #[.agg #[.int .i64 x, .int .i64 y, .int .i64 z], .int .i64 65536] (.bool (vwB 65536 x y z)) := by
  refine gives_of_run (E := S0) (lv := 3) (ds := (lits 8 (.b false :: (.b false :: (.lit :: (.lit :: (.lit :: (.b true :: [])))))))) (v := .bool false) (ps := [(decide (x < -65536)) = false, (decide (x > 65536)) = false, (decide (y < -65536)) = true]) mo (by kernel_rfl) (ps_cons q0 (ps_cons q1 (ps_cons q2 ps_nil))) ?_
  have z0 := of_decide_eq_false q0
  have z1 := of_decide_eq_false q1
  have z2 := of_decide_eq_true q2
  have e : vwB 65536 x y z = false := by
    rw [← Bool.not_eq_true, vwB_iff]; omega
  rw [e]
theorem vb3_leaf (x y z : Int)  (q0 : (decide (x < -65536)) = false) (q1 : (decide (x > 65536)) = false) (q2 : (decide (y < -65536)) = false) (q3 : (decide (y > 65536)) = true) : Gives P 67 #[.agg #[.int .i64 x, .int .i64 y, .int .i64 z], .int .i64 65536] (.bool (vwB 65536 x y z)) := by
  refine gives_of_run (E := S0) (lv := 3) (ds := (lits 8 (.b false :: (.b false :: (.lit :: (.lit :: (.lit :: (.b false :: (.b true :: []))))))))) (v := .bool false) (ps := [(decide (x < -65536)) = false, (decide (x > 65536)) = false, (decide (y < -65536)) = false, (decide (y > 65536)) = true]) mo (by kernel_rfl) (ps_cons q0 (ps_cons q1 (ps_cons q2 (ps_cons q3 ps_nil)))) ?_
  have z0 := of_decide_eq_false q0
  have z1 := of_decide_eq_false q1
  have z2 := of_decide_eq_false q2
  have z3 := of_decide_eq_true q3
  have e : vwB 65536 x y z = false := by
    rw [← Bool.not_eq_true, vwB_iff]; omega
  rw [e]
theorem vb4_leaf (x y z : Int)  (q0 : (decide (x < -65536)) = false) (q1 : (decide (x > 65536)) = false) (q2 : (decide (y < -65536)) = false) (q3 : (decide (y > 65536)) = false) (q4 : (decide (z < -65536)) = true) : Gives P 67 #[.agg #[.int .i64 x, .int .i64 y, .int .i64 z], .int .i64 65536] (.bool (vwB 65536 x y z)) := by
  refine gives_of_run (E := S0) (lv := 3) (ds := (lits 8 (.b false :: (.b false :: (.lit :: (.lit :: (.lit :: (.b false :: (.b false :: (.lit :: (.lit :: (.lit :: (.b true :: []))))))))))))) (v := .bool false) (ps := [(decide (x < -65536)) = false, (decide (x > 65536)) = false, (decide (y < -65536)) = false, (decide (y > 65536)) = false, (decide (z < -65536)) = true]) mo (by kernel_rfl) (ps_cons q0 (ps_cons q1 (ps_cons q2 (ps_cons q3 (ps_cons q4 ps_nil))))) ?_
  have z0 := of_decide_eq_false q0
  have z1 := of_decide_eq_false q1
  have z2 := of_decide_eq_false q2
  have z3 := of_decide_eq_false q3
  have z4 := of_decide_eq_true q4
  have e : vwB 65536 x y z = false := by
    rw [← Bool.not_eq_true, vwB_iff]; omega
  rw [e]
theorem vb5_leaf (x y z : Int)  (q0 : (decide (x < -65536)) = false) (q1 : (decide (x > 65536)) = false) (q2 : (decide (y < -65536)) = false) (q3 : (decide (y > 65536)) = false) (q4 : (decide (z < -65536)) = false) (q5 : (decide (z > 65536)) = true) : Gives P 67 #[.agg #[.int .i64 x, .int .i64 y, .int .i64 z], .int .i64 65536] (.bool (vwB 65536 x y z)) := by
  refine gives_of_run (E := S0) (lv := 3) (ds := (lits 8 (.b false :: (.b false :: (.lit :: (.lit :: (.lit :: (.b false :: (.b false :: (.lit :: (.lit :: (.lit :: (.b false :: (.b true :: [])))))))))))))) (v := .bool false) (ps := [(decide (x < -65536)) = false, (decide (x > 65536)) = false, (decide (y < -65536)) = false, (decide (y > 65536)) = false, (decide (z < -65536)) = false, (decide (z > 65536)) = true]) mo (by kernel_rfl) (ps_cons q0 (ps_cons q1 (ps_cons q2 (ps_cons q3 (ps_cons q4 (ps_cons q5 ps_nil)))))) ?_
  have z0 := of_decide_eq_false q0
  have z1 := of_decide_eq_false q1
  have z2 := of_decide_eq_false q2
  have z3 := of_decide_eq_false q3
  have z4 := of_decide_eq_false q4
  have z5 := of_decide_eq_true q5
  have e : vwB 65536 x y z = false := by
    rw [← Bool.not_eq_true, vwB_iff]; omega
  rw [e]
theorem vb6_leaf (x y z : Int)  (q0 : (decide (x < -65536)) = false) (q1 : (decide (x > 65536)) = false) (q2 : (decide (y < -65536)) = false) (q3 : (decide (y > 65536)) = false) (q4 : (decide (z < -65536)) = false) (q5 : (decide (z > 65536)) = false) : Gives P 67 #[.agg #[.int .i64 x, .int .i64 y, .int .i64 z], .int .i64 65536] (.bool (vwB 65536 x y z)) := by
  refine gives_of_run (E := S0) (lv := 3) (ds := (lits 8 (.b false :: (.b false :: (.lit :: (.lit :: (.lit :: (.b false :: (.b false :: (.lit :: (.lit :: (.lit :: (.b false :: (.b false :: [])))))))))))))) (v := .bool true) (ps := [(decide (x < -65536)) = false, (decide (x > 65536)) = false, (decide (y < -65536)) = false, (decide (y > 65536)) = false, (decide (z < -65536)) = false, (decide (z > 65536)) = false]) mo (by kernel_rfl) (ps_cons q0 (ps_cons q1 (ps_cons q2 (ps_cons q3 (ps_cons q4 (ps_cons q5 ps_nil)))))) ?_
  have z0 := of_decide_eq_false q0
  have z1 := of_decide_eq_false q1
  have z2 := of_decide_eq_false q2
  have z3 := of_decide_eq_false q3
  have z4 := of_decide_eq_false q4
  have z5 := of_decide_eq_false q5
  have e : vwB 65536 x y z = true := by
    exact vwB_iff.2 ⟨⟨by omega, by omega⟩, ⟨by omega, by omega⟩, by omega, by omega⟩
  rw [e]
theorem vb_all (x y z : Int) : Gives P 67 #[.agg #[.int .i64 x, .int .i64 y, .int .i64 z], .int .i64 65536] (.bool (vwB 65536 x y z)) := by
  cases q0 : (decide (x < -65536)) with
  | true =>
    exact vb0_leaf x y z  q0
  | false =>
    cases q1 : (decide (x > 65536)) with
    | true =>
      exact vb1_leaf x y z  q0 q1
    | false =>
      cases q2 : (decide (y < -65536)) with
      | true =>
        exact vb2_leaf x y z  q0 q1 q2
      | false =>
        cases q3 : (decide (y > 65536)) with
        | true =>
          exact vb3_leaf x y z  q0 q1 q2 q3
        | false =>
          cases q4 : (decide (z < -65536)) with
          | true =>
            exact vb4_leaf x y z  q0 q1 q2 q3 q4
          | false =>
            cases q5 : (decide (z > 65536)) with
            | true =>
              exact vb5_leaf x y z  q0 q1 q2 q3 q4 q5
            | false =>
              exact vb6_leaf x y z  q0 q1 q2 q3 q4 q5
theorem vw_gives (args : List Value) (h : vwP args) : Gives P 67 args.toArray (vwV args) := by
  unfold vwP at h
  split at h
  · obtain ⟨⟨x, y, z, rfl⟩, rfl | rfl⟩ := h
    · exact va_all x y z
    · exact vb_all x y z
  · exact h.elim
noncomputable def cVW : Ctr P := ⟨67, vwP, vwV, vw_gives⟩
noncomputable def S1 : Env P := ⟨⟨[cVW], []⟩, [], 20, []⟩
def wiP : List DV → Prop
  | [.st [.int .i64 _] q, .v (.int .i64 a), .v (.int .i64 b)] => q.sz = 6 ∧ 1 ≤ q.n ∧ q.n ≤ 4 ∧ (∀ j, j < q.n → ∃ b, q.el j = Bv b) ∧ a = 1048576 ∧ b = 65536
  | _ => False
def wiV : List DV → Value
  | [.st _ q, _, _] => .bool (allB q.n fun j => rdB (q.el j))
  | _ => undef
theorem sw10_leaf (s : Int) (l : Nat → Bd)  (q0 : (vwB 1048576 ((l 0).x0) ((l 0).x1) ((l 0).x2)) = true) (q1 : (vwB 65536 ((l 0).v0) ((l 0).v1) ((l 0).v2)) = true) : GivesD P 37 [.st [.int .i64 s] ⟨40, 6, 1, fun j => Bv (l j), false⟩, .v (.int .i64 1048576), .v (.int .i64 65536)] (.bool (allB 1 l)) := by
  refine givesD_of_run (E := S1) (lv := 4) (ds := (.lit :: (.lit :: (.lit :: (.b false :: (.b false :: [])))))) (v := .bool true) (ps := [0 < 1, 0 < 1, vwP [.agg #[.int .i64 ((l 0).x0), .int .i64 ((l 0).x1), .int .i64 ((l 0).x2)], .int .i64 1048576], (!(vwB 1048576 ((l 0).x0) ((l 0).x1) ((l 0).x2))) = false, vwP [.agg #[.int .i64 ((l 0).v0), .int .i64 ((l 0).v1), .int .i64 ((l 0).v2)], .int .i64 65536], (!(vwB 65536 ((l 0).v0) ((l 0).v1) ((l 0).v2))) = false]) mo (by kernel_rfl) (ps_cons (by decide) (ps_cons (by decide) (ps_cons ⟨⟨_, _, _, rfl⟩, .inl rfl⟩ (ps_cons (neg_f q0) (ps_cons ⟨⟨_, _, _, rfl⟩, .inr rfl⟩ (ps_cons (neg_f q1) ps_nil)))))) ?_
  have e : allB 1 l = true := by simp [allB, bB, q0, q1]
  rw [e]
theorem sw11_leaf (s : Int) (l : Nat → Bd)  (q0 : (vwB 1048576 ((l 0).x0) ((l 0).x1) ((l 0).x2)) = false) : GivesD P 37 [.st [.int .i64 s] ⟨40, 6, 1, fun j => Bv (l j), false⟩, .v (.int .i64 1048576), .v (.int .i64 65536)] (.bool (allB 1 l)) := by
  refine givesD_of_run (E := S1) (lv := 4) (ds := (.lit :: (.lit :: (.lit :: (.b true :: []))))) (v := .bool false) (ps := [0 < 1, 0 < 1, vwP [.agg #[.int .i64 ((l 0).x0), .int .i64 ((l 0).x1), .int .i64 ((l 0).x2)], .int .i64 1048576], (!(vwB 1048576 ((l 0).x0) ((l 0).x1) ((l 0).x2))) = true]) mo (by kernel_rfl) (ps_cons (by decide) (ps_cons (by decide) (ps_cons ⟨⟨_, _, _, rfl⟩, .inl rfl⟩ (ps_cons (neg_t q0) ps_nil)))) ?_
  have e : allB 1 l = false := by simp [allB, bB, q0]
  rw [e]
theorem sw12_leaf (s : Int) (l : Nat → Bd)  (q0 : (vwB 1048576 ((l 0).x0) ((l 0).x1) ((l 0).x2)) = true) (q1 : (vwB 65536 ((l 0).v0) ((l 0).v1) ((l 0).v2)) = false) : GivesD P 37 [.st [.int .i64 s] ⟨40, 6, 1, fun j => Bv (l j), false⟩, .v (.int .i64 1048576), .v (.int .i64 65536)] (.bool (allB 1 l)) := by
  refine givesD_of_run (E := S1) (lv := 4) (ds := (.lit :: (.lit :: (.lit :: (.b false :: (.b true :: [])))))) (v := .bool false) (ps := [0 < 1, 0 < 1, vwP [.agg #[.int .i64 ((l 0).x0), .int .i64 ((l 0).x1), .int .i64 ((l 0).x2)], .int .i64 1048576], (!(vwB 1048576 ((l 0).x0) ((l 0).x1) ((l 0).x2))) = false, vwP [.agg #[.int .i64 ((l 0).v0), .int .i64 ((l 0).v1), .int .i64 ((l 0).v2)], .int .i64 65536], (!(vwB 65536 ((l 0).v0) ((l 0).v1) ((l 0).v2))) = true]) mo (by kernel_rfl) (ps_cons (by decide) (ps_cons (by decide) (ps_cons ⟨⟨_, _, _, rfl⟩, .inl rfl⟩ (ps_cons (neg_f q0) (ps_cons ⟨⟨_, _, _, rfl⟩, .inr rfl⟩ (ps_cons (neg_t q1) ps_nil)))))) ?_
  have e : allB 1 l = false := by simp [allB, bB, q0, q1]
  rw [e]
theorem sw1_all (s : Int) (l : Nat → Bd) : GivesD P 37 [.st [.int .i64 s] ⟨40, 6, 1, fun j => Bv (l j), false⟩, .v (.int .i64 1048576), .v (.int .i64 65536)] (.bool (allB 1 l)) := by
  cases q0 : (vwB 1048576 ((l 0).x0) ((l 0).x1) ((l 0).x2)) with
  | true =>
    cases q1 : (vwB 65536 ((l 0).v0) ((l 0).v1) ((l 0).v2)) with
    | true =>
      exact sw10_leaf s l  q0 q1
    | false =>
      exact sw12_leaf s l  q0 q1
  | false =>
    exact sw11_leaf s l  q0
theorem sw20_leaf (s : Int) (l : Nat → Bd)  (q0 : (vwB 1048576 ((l 0).x0) ((l 0).x1) ((l 0).x2)) = true) (q1 : (vwB 65536 ((l 0).v0) ((l 0).v1) ((l 0).v2)) = true) (q2 : (vwB 1048576 ((l 1).x0) ((l 1).x1) ((l 1).x2)) = true) (q3 : (vwB 65536 ((l 1).v0) ((l 1).v1) ((l 1).v2)) = true) : GivesD P 37 [.st [.int .i64 s] ⟨40, 6, 2, fun j => Bv (l j), false⟩, .v (.int .i64 1048576), .v (.int .i64 65536)] (.bool (allB 2 l)) := by
  refine givesD_of_run (E := S1) (lv := 4) (ds := (.lit :: (.lit :: (.lit :: (.b false :: (.b false :: (.lit :: (.lit :: (.b false :: (.b false :: [])))))))))) (v := .bool true) (ps := [0 < 2, 0 < 2, vwP [.agg #[.int .i64 ((l 0).x0), .int .i64 ((l 0).x1), .int .i64 ((l 0).x2)], .int .i64 1048576], (!(vwB 1048576 ((l 0).x0) ((l 0).x1) ((l 0).x2))) = false, vwP [.agg #[.int .i64 ((l 0).v0), .int .i64 ((l 0).v1), .int .i64 ((l 0).v2)], .int .i64 65536], (!(vwB 65536 ((l 0).v0) ((l 0).v1) ((l 0).v2))) = false, 1 < 2, 1 < 2, vwP [.agg #[.int .i64 ((l 1).x0), .int .i64 ((l 1).x1), .int .i64 ((l 1).x2)], .int .i64 1048576], (!(vwB 1048576 ((l 1).x0) ((l 1).x1) ((l 1).x2))) = false, vwP [.agg #[.int .i64 ((l 1).v0), .int .i64 ((l 1).v1), .int .i64 ((l 1).v2)], .int .i64 65536], (!(vwB 65536 ((l 1).v0) ((l 1).v1) ((l 1).v2))) = false]) mo (by kernel_rfl) (ps_cons (by decide) (ps_cons (by decide) (ps_cons ⟨⟨_, _, _, rfl⟩, .inl rfl⟩ (ps_cons (neg_f q0) (ps_cons ⟨⟨_, _, _, rfl⟩, .inr rfl⟩ (ps_cons (neg_f q1) (ps_cons (by decide) (ps_cons (by decide) (ps_cons ⟨⟨_, _, _, rfl⟩, .inl rfl⟩ (ps_cons (neg_f q2) (ps_cons ⟨⟨_, _, _, rfl⟩, .inr rfl⟩ (ps_cons (neg_f q3) ps_nil)))))))))))) ?_
  have e : allB 2 l = true := by simp [allB, bB, q0, q1, q2, q3]
  rw [e]
theorem sw21_leaf (s : Int) (l : Nat → Bd)  (q0 : (vwB 1048576 ((l 0).x0) ((l 0).x1) ((l 0).x2)) = false) : GivesD P 37 [.st [.int .i64 s] ⟨40, 6, 2, fun j => Bv (l j), false⟩, .v (.int .i64 1048576), .v (.int .i64 65536)] (.bool (allB 2 l)) := by
  refine givesD_of_run (E := S1) (lv := 4) (ds := (.lit :: (.lit :: (.lit :: (.b true :: []))))) (v := .bool false) (ps := [0 < 2, 0 < 2, vwP [.agg #[.int .i64 ((l 0).x0), .int .i64 ((l 0).x1), .int .i64 ((l 0).x2)], .int .i64 1048576], (!(vwB 1048576 ((l 0).x0) ((l 0).x1) ((l 0).x2))) = true]) mo (by kernel_rfl) (ps_cons (by decide) (ps_cons (by decide) (ps_cons ⟨⟨_, _, _, rfl⟩, .inl rfl⟩ (ps_cons (neg_t q0) ps_nil)))) ?_
  have e : allB 2 l = false := by simp [allB, bB, q0]
  rw [e]
theorem sw22_leaf (s : Int) (l : Nat → Bd)  (q0 : (vwB 1048576 ((l 0).x0) ((l 0).x1) ((l 0).x2)) = true) (q1 : (vwB 65536 ((l 0).v0) ((l 0).v1) ((l 0).v2)) = false) : GivesD P 37 [.st [.int .i64 s] ⟨40, 6, 2, fun j => Bv (l j), false⟩, .v (.int .i64 1048576), .v (.int .i64 65536)] (.bool (allB 2 l)) := by
  refine givesD_of_run (E := S1) (lv := 4) (ds := (.lit :: (.lit :: (.lit :: (.b false :: (.b true :: [])))))) (v := .bool false) (ps := [0 < 2, 0 < 2, vwP [.agg #[.int .i64 ((l 0).x0), .int .i64 ((l 0).x1), .int .i64 ((l 0).x2)], .int .i64 1048576], (!(vwB 1048576 ((l 0).x0) ((l 0).x1) ((l 0).x2))) = false, vwP [.agg #[.int .i64 ((l 0).v0), .int .i64 ((l 0).v1), .int .i64 ((l 0).v2)], .int .i64 65536], (!(vwB 65536 ((l 0).v0) ((l 0).v1) ((l 0).v2))) = true]) mo (by kernel_rfl) (ps_cons (by decide) (ps_cons (by decide) (ps_cons ⟨⟨_, _, _, rfl⟩, .inl rfl⟩ (ps_cons (neg_f q0) (ps_cons ⟨⟨_, _, _, rfl⟩, .inr rfl⟩ (ps_cons (neg_t q1) ps_nil)))))) ?_
  have e : allB 2 l = false := by simp [allB, bB, q0, q1]
  rw [e]
theorem sw23_leaf (s : Int) (l : Nat → Bd)  (q0 : (vwB 1048576 ((l 0).x0) ((l 0).x1) ((l 0).x2)) = true) (q1 : (vwB 65536 ((l 0).v0) ((l 0).v1) ((l 0).v2)) = true) (q2 : (vwB 1048576 ((l 1).x0) ((l 1).x1) ((l 1).x2)) = false) : GivesD P 37 [.st [.int .i64 s] ⟨40, 6, 2, fun j => Bv (l j), false⟩, .v (.int .i64 1048576), .v (.int .i64 65536)] (.bool (allB 2 l)) := by
  refine givesD_of_run (E := S1) (lv := 4) (ds := (.lit :: (.lit :: (.lit :: (.b false :: (.b false :: (.lit :: (.lit :: (.b true :: []))))))))) (v := .bool false) (ps := [0 < 2, 0 < 2, vwP [.agg #[.int .i64 ((l 0).x0), .int .i64 ((l 0).x1), .int .i64 ((l 0).x2)], .int .i64 1048576], (!(vwB 1048576 ((l 0).x0) ((l 0).x1) ((l 0).x2))) = false, vwP [.agg #[.int .i64 ((l 0).v0), .int .i64 ((l 0).v1), .int .i64 ((l 0).v2)], .int .i64 65536], (!(vwB 65536 ((l 0).v0) ((l 0).v1) ((l 0).v2))) = false, 1 < 2, 1 < 2, vwP [.agg #[.int .i64 ((l 1).x0), .int .i64 ((l 1).x1), .int .i64 ((l 1).x2)], .int .i64 1048576], (!(vwB 1048576 ((l 1).x0) ((l 1).x1) ((l 1).x2))) = true]) mo (by kernel_rfl) (ps_cons (by decide) (ps_cons (by decide) (ps_cons ⟨⟨_, _, _, rfl⟩, .inl rfl⟩ (ps_cons (neg_f q0) (ps_cons ⟨⟨_, _, _, rfl⟩, .inr rfl⟩ (ps_cons (neg_f q1) (ps_cons (by decide) (ps_cons (by decide) (ps_cons ⟨⟨_, _, _, rfl⟩, .inl rfl⟩ (ps_cons (neg_t q2) ps_nil)))))))))) ?_
  have e : allB 2 l = false := by simp [allB, bB, q0, q1, q2]
  rw [e]
theorem sw24_leaf (s : Int) (l : Nat → Bd)  (q0 : (vwB 1048576 ((l 0).x0) ((l 0).x1) ((l 0).x2)) = true) (q1 : (vwB 65536 ((l 0).v0) ((l 0).v1) ((l 0).v2)) = true) (q2 : (vwB 1048576 ((l 1).x0) ((l 1).x1) ((l 1).x2)) = true) (q3 : (vwB 65536 ((l 1).v0) ((l 1).v1) ((l 1).v2)) = false) : GivesD P 37 [.st [.int .i64 s] ⟨40, 6, 2, fun j => Bv (l j), false⟩, .v (.int .i64 1048576), .v (.int .i64 65536)] (.bool (allB 2 l)) := by
  refine givesD_of_run (E := S1) (lv := 4) (ds := (.lit :: (.lit :: (.lit :: (.b false :: (.b false :: (.lit :: (.lit :: (.b false :: (.b true :: [])))))))))) (v := .bool false) (ps := [0 < 2, 0 < 2, vwP [.agg #[.int .i64 ((l 0).x0), .int .i64 ((l 0).x1), .int .i64 ((l 0).x2)], .int .i64 1048576], (!(vwB 1048576 ((l 0).x0) ((l 0).x1) ((l 0).x2))) = false, vwP [.agg #[.int .i64 ((l 0).v0), .int .i64 ((l 0).v1), .int .i64 ((l 0).v2)], .int .i64 65536], (!(vwB 65536 ((l 0).v0) ((l 0).v1) ((l 0).v2))) = false, 1 < 2, 1 < 2, vwP [.agg #[.int .i64 ((l 1).x0), .int .i64 ((l 1).x1), .int .i64 ((l 1).x2)], .int .i64 1048576], (!(vwB 1048576 ((l 1).x0) ((l 1).x1) ((l 1).x2))) = false, vwP [.agg #[.int .i64 ((l 1).v0), .int .i64 ((l 1).v1), .int .i64 ((l 1).v2)], .int .i64 65536], (!(vwB 65536 ((l 1).v0) ((l 1).v1) ((l 1).v2))) = true]) mo (by kernel_rfl) (ps_cons (by decide) (ps_cons (by decide) (ps_cons ⟨⟨_, _, _, rfl⟩, .inl rfl⟩ (ps_cons (neg_f q0) (ps_cons ⟨⟨_, _, _, rfl⟩, .inr rfl⟩ (ps_cons (neg_f q1) (ps_cons (by decide) (ps_cons (by decide) (ps_cons ⟨⟨_, _, _, rfl⟩, .inl rfl⟩ (ps_cons (neg_f q2) (ps_cons ⟨⟨_, _, _, rfl⟩, .inr rfl⟩ (ps_cons (neg_t q3) ps_nil)))))))))))) ?_
  have e : allB 2 l = false := by simp [allB, bB, q0, q1, q2, q3]
  rw [e]
theorem sw2_all (s : Int) (l : Nat → Bd) : GivesD P 37 [.st [.int .i64 s] ⟨40, 6, 2, fun j => Bv (l j), false⟩, .v (.int .i64 1048576), .v (.int .i64 65536)] (.bool (allB 2 l)) := by
  cases q0 : (vwB 1048576 ((l 0).x0) ((l 0).x1) ((l 0).x2)) with
  | true =>
    cases q1 : (vwB 65536 ((l 0).v0) ((l 0).v1) ((l 0).v2)) with
    | true =>
      cases q2 : (vwB 1048576 ((l 1).x0) ((l 1).x1) ((l 1).x2)) with
      | true =>
        cases q3 : (vwB 65536 ((l 1).v0) ((l 1).v1) ((l 1).v2)) with
        | true =>
          exact sw20_leaf s l  q0 q1 q2 q3
        | false =>
          exact sw24_leaf s l  q0 q1 q2 q3
      | false =>
        exact sw23_leaf s l  q0 q1 q2
    | false =>
      exact sw22_leaf s l  q0 q1
  | false =>
    exact sw21_leaf s l  q0
theorem sw30_leaf (s : Int) (l : Nat → Bd)  (q0 : (vwB 1048576 ((l 0).x0) ((l 0).x1) ((l 0).x2)) = true) (q1 : (vwB 65536 ((l 0).v0) ((l 0).v1) ((l 0).v2)) = true) (q2 : (vwB 1048576 ((l 1).x0) ((l 1).x1) ((l 1).x2)) = true) (q3 : (vwB 65536 ((l 1).v0) ((l 1).v1) ((l 1).v2)) = true) (q4 : (vwB 1048576 ((l 2).x0) ((l 2).x1) ((l 2).x2)) = true) (q5 : (vwB 65536 ((l 2).v0) ((l 2).v1) ((l 2).v2)) = true) : GivesD P 37 [.st [.int .i64 s] ⟨40, 6, 3, fun j => Bv (l j), false⟩, .v (.int .i64 1048576), .v (.int .i64 65536)] (.bool (allB 3 l)) := by
  refine givesD_of_run (E := S1) (lv := 4) (ds := (.lit :: (.lit :: (.lit :: (.b false :: (.b false :: (.lit :: (.lit :: (.b false :: (.b false :: (.lit :: (.lit :: (.b false :: (.b false :: [])))))))))))))) (v := .bool true) (ps := [0 < 3, 0 < 3, vwP [.agg #[.int .i64 ((l 0).x0), .int .i64 ((l 0).x1), .int .i64 ((l 0).x2)], .int .i64 1048576], (!(vwB 1048576 ((l 0).x0) ((l 0).x1) ((l 0).x2))) = false, vwP [.agg #[.int .i64 ((l 0).v0), .int .i64 ((l 0).v1), .int .i64 ((l 0).v2)], .int .i64 65536], (!(vwB 65536 ((l 0).v0) ((l 0).v1) ((l 0).v2))) = false, 1 < 3, 1 < 3, vwP [.agg #[.int .i64 ((l 1).x0), .int .i64 ((l 1).x1), .int .i64 ((l 1).x2)], .int .i64 1048576], (!(vwB 1048576 ((l 1).x0) ((l 1).x1) ((l 1).x2))) = false, vwP [.agg #[.int .i64 ((l 1).v0), .int .i64 ((l 1).v1), .int .i64 ((l 1).v2)], .int .i64 65536], (!(vwB 65536 ((l 1).v0) ((l 1).v1) ((l 1).v2))) = false, 2 < 3, 2 < 3, vwP [.agg #[.int .i64 ((l 2).x0), .int .i64 ((l 2).x1), .int .i64 ((l 2).x2)], .int .i64 1048576], (!(vwB 1048576 ((l 2).x0) ((l 2).x1) ((l 2).x2))) = false, vwP [.agg #[.int .i64 ((l 2).v0), .int .i64 ((l 2).v1), .int .i64 ((l 2).v2)], .int .i64 65536], (!(vwB 65536 ((l 2).v0) ((l 2).v1) ((l 2).v2))) = false]) mo (by kernel_rfl) (ps_cons (by decide) (ps_cons (by decide) (ps_cons ⟨⟨_, _, _, rfl⟩, .inl rfl⟩ (ps_cons (neg_f q0) (ps_cons ⟨⟨_, _, _, rfl⟩, .inr rfl⟩ (ps_cons (neg_f q1) (ps_cons (by decide) (ps_cons (by decide) (ps_cons ⟨⟨_, _, _, rfl⟩, .inl rfl⟩ (ps_cons (neg_f q2) (ps_cons ⟨⟨_, _, _, rfl⟩, .inr rfl⟩ (ps_cons (neg_f q3) (ps_cons (by decide) (ps_cons (by decide) (ps_cons ⟨⟨_, _, _, rfl⟩, .inl rfl⟩ (ps_cons (neg_f q4) (ps_cons ⟨⟨_, _, _, rfl⟩, .inr rfl⟩ (ps_cons (neg_f q5) ps_nil)))))))))))))))))) ?_
  have e : allB 3 l = true := by simp [allB, bB, q0, q1, q2, q3, q4, q5]
  rw [e]
theorem sw31_leaf (s : Int) (l : Nat → Bd)  (q0 : (vwB 1048576 ((l 0).x0) ((l 0).x1) ((l 0).x2)) = false) : GivesD P 37 [.st [.int .i64 s] ⟨40, 6, 3, fun j => Bv (l j), false⟩, .v (.int .i64 1048576), .v (.int .i64 65536)] (.bool (allB 3 l)) := by
  refine givesD_of_run (E := S1) (lv := 4) (ds := (.lit :: (.lit :: (.lit :: (.b true :: []))))) (v := .bool false) (ps := [0 < 3, 0 < 3, vwP [.agg #[.int .i64 ((l 0).x0), .int .i64 ((l 0).x1), .int .i64 ((l 0).x2)], .int .i64 1048576], (!(vwB 1048576 ((l 0).x0) ((l 0).x1) ((l 0).x2))) = true]) mo (by kernel_rfl) (ps_cons (by decide) (ps_cons (by decide) (ps_cons ⟨⟨_, _, _, rfl⟩, .inl rfl⟩ (ps_cons (neg_t q0) ps_nil)))) ?_
  have e : allB 3 l = false := by simp [allB, bB, q0]
  rw [e]
theorem sw32_leaf (s : Int) (l : Nat → Bd)  (q0 : (vwB 1048576 ((l 0).x0) ((l 0).x1) ((l 0).x2)) = true) (q1 : (vwB 65536 ((l 0).v0) ((l 0).v1) ((l 0).v2)) = false) : GivesD P 37 [.st [.int .i64 s] ⟨40, 6, 3, fun j => Bv (l j), false⟩, .v (.int .i64 1048576), .v (.int .i64 65536)] (.bool (allB 3 l)) := by
  refine givesD_of_run (E := S1) (lv := 4) (ds := (.lit :: (.lit :: (.lit :: (.b false :: (.b true :: [])))))) (v := .bool false) (ps := [0 < 3, 0 < 3, vwP [.agg #[.int .i64 ((l 0).x0), .int .i64 ((l 0).x1), .int .i64 ((l 0).x2)], .int .i64 1048576], (!(vwB 1048576 ((l 0).x0) ((l 0).x1) ((l 0).x2))) = false, vwP [.agg #[.int .i64 ((l 0).v0), .int .i64 ((l 0).v1), .int .i64 ((l 0).v2)], .int .i64 65536], (!(vwB 65536 ((l 0).v0) ((l 0).v1) ((l 0).v2))) = true]) mo (by kernel_rfl) (ps_cons (by decide) (ps_cons (by decide) (ps_cons ⟨⟨_, _, _, rfl⟩, .inl rfl⟩ (ps_cons (neg_f q0) (ps_cons ⟨⟨_, _, _, rfl⟩, .inr rfl⟩ (ps_cons (neg_t q1) ps_nil)))))) ?_
  have e : allB 3 l = false := by simp [allB, bB, q0, q1]
  rw [e]
theorem sw33_leaf (s : Int) (l : Nat → Bd)  (q0 : (vwB 1048576 ((l 0).x0) ((l 0).x1) ((l 0).x2)) = true) (q1 : (vwB 65536 ((l 0).v0) ((l 0).v1) ((l 0).v2)) = true) (q2 : (vwB 1048576 ((l 1).x0) ((l 1).x1) ((l 1).x2)) = false) : GivesD P 37 [.st [.int .i64 s] ⟨40, 6, 3, fun j => Bv (l j), false⟩, .v (.int .i64 1048576), .v (.int .i64 65536)] (.bool (allB 3 l)) := by
  refine givesD_of_run (E := S1) (lv := 4) (ds := (.lit :: (.lit :: (.lit :: (.b false :: (.b false :: (.lit :: (.lit :: (.b true :: []))))))))) (v := .bool false) (ps := [0 < 3, 0 < 3, vwP [.agg #[.int .i64 ((l 0).x0), .int .i64 ((l 0).x1), .int .i64 ((l 0).x2)], .int .i64 1048576], (!(vwB 1048576 ((l 0).x0) ((l 0).x1) ((l 0).x2))) = false, vwP [.agg #[.int .i64 ((l 0).v0), .int .i64 ((l 0).v1), .int .i64 ((l 0).v2)], .int .i64 65536], (!(vwB 65536 ((l 0).v0) ((l 0).v1) ((l 0).v2))) = false, 1 < 3, 1 < 3, vwP [.agg #[.int .i64 ((l 1).x0), .int .i64 ((l 1).x1), .int .i64 ((l 1).x2)], .int .i64 1048576], (!(vwB 1048576 ((l 1).x0) ((l 1).x1) ((l 1).x2))) = true]) mo (by kernel_rfl) (ps_cons (by decide) (ps_cons (by decide) (ps_cons ⟨⟨_, _, _, rfl⟩, .inl rfl⟩ (ps_cons (neg_f q0) (ps_cons ⟨⟨_, _, _, rfl⟩, .inr rfl⟩ (ps_cons (neg_f q1) (ps_cons (by decide) (ps_cons (by decide) (ps_cons ⟨⟨_, _, _, rfl⟩, .inl rfl⟩ (ps_cons (neg_t q2) ps_nil)))))))))) ?_
  have e : allB 3 l = false := by simp [allB, bB, q0, q1, q2]
  rw [e]
theorem sw34_leaf (s : Int) (l : Nat → Bd)  (q0 : (vwB 1048576 ((l 0).x0) ((l 0).x1) ((l 0).x2)) = true) (q1 : (vwB 65536 ((l 0).v0) ((l 0).v1) ((l 0).v2)) = true) (q2 : (vwB 1048576 ((l 1).x0) ((l 1).x1) ((l 1).x2)) = true) (q3 : (vwB 65536 ((l 1).v0) ((l 1).v1) ((l 1).v2)) = false) : GivesD P 37 [.st [.int .i64 s] ⟨40, 6, 3, fun j => Bv (l j), false⟩, .v (.int .i64 1048576), .v (.int .i64 65536)] (.bool (allB 3 l)) := by
  refine givesD_of_run (E := S1) (lv := 4) (ds := (.lit :: (.lit :: (.lit :: (.b false :: (.b false :: (.lit :: (.lit :: (.b false :: (.b true :: [])))))))))) (v := .bool false) (ps := [0 < 3, 0 < 3, vwP [.agg #[.int .i64 ((l 0).x0), .int .i64 ((l 0).x1), .int .i64 ((l 0).x2)], .int .i64 1048576], (!(vwB 1048576 ((l 0).x0) ((l 0).x1) ((l 0).x2))) = false, vwP [.agg #[.int .i64 ((l 0).v0), .int .i64 ((l 0).v1), .int .i64 ((l 0).v2)], .int .i64 65536], (!(vwB 65536 ((l 0).v0) ((l 0).v1) ((l 0).v2))) = false, 1 < 3, 1 < 3, vwP [.agg #[.int .i64 ((l 1).x0), .int .i64 ((l 1).x1), .int .i64 ((l 1).x2)], .int .i64 1048576], (!(vwB 1048576 ((l 1).x0) ((l 1).x1) ((l 1).x2))) = false, vwP [.agg #[.int .i64 ((l 1).v0), .int .i64 ((l 1).v1), .int .i64 ((l 1).v2)], .int .i64 65536], (!(vwB 65536 ((l 1).v0) ((l 1).v1) ((l 1).v2))) = true]) mo (by kernel_rfl) (ps_cons (by decide) (ps_cons (by decide) (ps_cons ⟨⟨_, _, _, rfl⟩, .inl rfl⟩ (ps_cons (neg_f q0) (ps_cons ⟨⟨_, _, _, rfl⟩, .inr rfl⟩ (ps_cons (neg_f q1) (ps_cons (by decide) (ps_cons (by decide) (ps_cons ⟨⟨_, _, _, rfl⟩, .inl rfl⟩ (ps_cons (neg_f q2) (ps_cons ⟨⟨_, _, _, rfl⟩, .inr rfl⟩ (ps_cons (neg_t q3) ps_nil)))))))))))) ?_
  have e : allB 3 l = false := by simp [allB, bB, q0, q1, q2, q3]
  rw [e]
theorem sw35_leaf (s : Int) (l : Nat → Bd)  (q0 : (vwB 1048576 ((l 0).x0) ((l 0).x1) ((l 0).x2)) = true) (q1 : (vwB 65536 ((l 0).v0) ((l 0).v1) ((l 0).v2)) = true) (q2 : (vwB 1048576 ((l 1).x0) ((l 1).x1) ((l 1).x2)) = true) (q3 : (vwB 65536 ((l 1).v0) ((l 1).v1) ((l 1).v2)) = true) (q4 : (vwB 1048576 ((l 2).x0) ((l 2).x1) ((l 2).x2)) = false) : GivesD P 37 [.st [.int .i64 s] ⟨40, 6, 3, fun j => Bv (l j), false⟩, .v (.int .i64 1048576), .v (.int .i64 65536)] (.bool (allB 3 l)) := by
  refine givesD_of_run (E := S1) (lv := 4) (ds := (.lit :: (.lit :: (.lit :: (.b false :: (.b false :: (.lit :: (.lit :: (.b false :: (.b false :: (.lit :: (.lit :: (.b true :: []))))))))))))) (v := .bool false) (ps := [0 < 3, 0 < 3, vwP [.agg #[.int .i64 ((l 0).x0), .int .i64 ((l 0).x1), .int .i64 ((l 0).x2)], .int .i64 1048576], (!(vwB 1048576 ((l 0).x0) ((l 0).x1) ((l 0).x2))) = false, vwP [.agg #[.int .i64 ((l 0).v0), .int .i64 ((l 0).v1), .int .i64 ((l 0).v2)], .int .i64 65536], (!(vwB 65536 ((l 0).v0) ((l 0).v1) ((l 0).v2))) = false, 1 < 3, 1 < 3, vwP [.agg #[.int .i64 ((l 1).x0), .int .i64 ((l 1).x1), .int .i64 ((l 1).x2)], .int .i64 1048576], (!(vwB 1048576 ((l 1).x0) ((l 1).x1) ((l 1).x2))) = false, vwP [.agg #[.int .i64 ((l 1).v0), .int .i64 ((l 1).v1), .int .i64 ((l 1).v2)], .int .i64 65536], (!(vwB 65536 ((l 1).v0) ((l 1).v1) ((l 1).v2))) = false, 2 < 3, 2 < 3, vwP [.agg #[.int .i64 ((l 2).x0), .int .i64 ((l 2).x1), .int .i64 ((l 2).x2)], .int .i64 1048576], (!(vwB 1048576 ((l 2).x0) ((l 2).x1) ((l 2).x2))) = true]) mo (by kernel_rfl) (ps_cons (by decide) (ps_cons (by decide) (ps_cons ⟨⟨_, _, _, rfl⟩, .inl rfl⟩ (ps_cons (neg_f q0) (ps_cons ⟨⟨_, _, _, rfl⟩, .inr rfl⟩ (ps_cons (neg_f q1) (ps_cons (by decide) (ps_cons (by decide) (ps_cons ⟨⟨_, _, _, rfl⟩, .inl rfl⟩ (ps_cons (neg_f q2) (ps_cons ⟨⟨_, _, _, rfl⟩, .inr rfl⟩ (ps_cons (neg_f q3) (ps_cons (by decide) (ps_cons (by decide) (ps_cons ⟨⟨_, _, _, rfl⟩, .inl rfl⟩ (ps_cons (neg_t q4) ps_nil)))))))))))))))) ?_
  have e : allB 3 l = false := by simp [allB, bB, q0, q1, q2, q3, q4]
  rw [e]
theorem sw36_leaf (s : Int) (l : Nat → Bd)  (q0 : (vwB 1048576 ((l 0).x0) ((l 0).x1) ((l 0).x2)) = true) (q1 : (vwB 65536 ((l 0).v0) ((l 0).v1) ((l 0).v2)) = true) (q2 : (vwB 1048576 ((l 1).x0) ((l 1).x1) ((l 1).x2)) = true) (q3 : (vwB 65536 ((l 1).v0) ((l 1).v1) ((l 1).v2)) = true) (q4 : (vwB 1048576 ((l 2).x0) ((l 2).x1) ((l 2).x2)) = true) (q5 : (vwB 65536 ((l 2).v0) ((l 2).v1) ((l 2).v2)) = false) : GivesD P 37 [.st [.int .i64 s] ⟨40, 6, 3, fun j => Bv (l j), false⟩, .v (.int .i64 1048576), .v (.int .i64 65536)] (.bool (allB 3 l)) := by
  refine givesD_of_run (E := S1) (lv := 4) (ds := (.lit :: (.lit :: (.lit :: (.b false :: (.b false :: (.lit :: (.lit :: (.b false :: (.b false :: (.lit :: (.lit :: (.b false :: (.b true :: [])))))))))))))) (v := .bool false) (ps := [0 < 3, 0 < 3, vwP [.agg #[.int .i64 ((l 0).x0), .int .i64 ((l 0).x1), .int .i64 ((l 0).x2)], .int .i64 1048576], (!(vwB 1048576 ((l 0).x0) ((l 0).x1) ((l 0).x2))) = false, vwP [.agg #[.int .i64 ((l 0).v0), .int .i64 ((l 0).v1), .int .i64 ((l 0).v2)], .int .i64 65536], (!(vwB 65536 ((l 0).v0) ((l 0).v1) ((l 0).v2))) = false, 1 < 3, 1 < 3, vwP [.agg #[.int .i64 ((l 1).x0), .int .i64 ((l 1).x1), .int .i64 ((l 1).x2)], .int .i64 1048576], (!(vwB 1048576 ((l 1).x0) ((l 1).x1) ((l 1).x2))) = false, vwP [.agg #[.int .i64 ((l 1).v0), .int .i64 ((l 1).v1), .int .i64 ((l 1).v2)], .int .i64 65536], (!(vwB 65536 ((l 1).v0) ((l 1).v1) ((l 1).v2))) = false, 2 < 3, 2 < 3, vwP [.agg #[.int .i64 ((l 2).x0), .int .i64 ((l 2).x1), .int .i64 ((l 2).x2)], .int .i64 1048576], (!(vwB 1048576 ((l 2).x0) ((l 2).x1) ((l 2).x2))) = false, vwP [.agg #[.int .i64 ((l 2).v0), .int .i64 ((l 2).v1), .int .i64 ((l 2).v2)], .int .i64 65536], (!(vwB 65536 ((l 2).v0) ((l 2).v1) ((l 2).v2))) = true]) mo (by kernel_rfl) (ps_cons (by decide) (ps_cons (by decide) (ps_cons ⟨⟨_, _, _, rfl⟩, .inl rfl⟩ (ps_cons (neg_f q0) (ps_cons ⟨⟨_, _, _, rfl⟩, .inr rfl⟩ (ps_cons (neg_f q1) (ps_cons (by decide) (ps_cons (by decide) (ps_cons ⟨⟨_, _, _, rfl⟩, .inl rfl⟩ (ps_cons (neg_f q2) (ps_cons ⟨⟨_, _, _, rfl⟩, .inr rfl⟩ (ps_cons (neg_f q3) (ps_cons (by decide) (ps_cons (by decide) (ps_cons ⟨⟨_, _, _, rfl⟩, .inl rfl⟩ (ps_cons (neg_f q4) (ps_cons ⟨⟨_, _, _, rfl⟩, .inr rfl⟩ (ps_cons (neg_t q5) ps_nil)))))))))))))))))) ?_
  have e : allB 3 l = false := by simp [allB, bB, q0, q1, q2, q3, q4, q5]
  rw [e]
theorem sw3_all (s : Int) (l : Nat → Bd) : GivesD P 37 [.st [.int .i64 s] ⟨40, 6, 3, fun j => Bv (l j), false⟩, .v (.int .i64 1048576), .v (.int .i64 65536)] (.bool (allB 3 l)) := by
  cases q0 : (vwB 1048576 ((l 0).x0) ((l 0).x1) ((l 0).x2)) with
  | true =>
    cases q1 : (vwB 65536 ((l 0).v0) ((l 0).v1) ((l 0).v2)) with
    | true =>
      cases q2 : (vwB 1048576 ((l 1).x0) ((l 1).x1) ((l 1).x2)) with
      | true =>
        cases q3 : (vwB 65536 ((l 1).v0) ((l 1).v1) ((l 1).v2)) with
        | true =>
          cases q4 : (vwB 1048576 ((l 2).x0) ((l 2).x1) ((l 2).x2)) with
          | true =>
            cases q5 : (vwB 65536 ((l 2).v0) ((l 2).v1) ((l 2).v2)) with
            | true =>
              exact sw30_leaf s l  q0 q1 q2 q3 q4 q5
            | false =>
              exact sw36_leaf s l  q0 q1 q2 q3 q4 q5
          | false =>
            exact sw35_leaf s l  q0 q1 q2 q3 q4
        | false =>
          exact sw34_leaf s l  q0 q1 q2 q3
      | false =>
        exact sw33_leaf s l  q0 q1 q2
    | false =>
      exact sw32_leaf s l  q0 q1
  | false =>
    exact sw31_leaf s l  q0
theorem sw40_leaf (s : Int) (l : Nat → Bd)  (q0 : (vwB 1048576 ((l 0).x0) ((l 0).x1) ((l 0).x2)) = true) (q1 : (vwB 65536 ((l 0).v0) ((l 0).v1) ((l 0).v2)) = true) (q2 : (vwB 1048576 ((l 1).x0) ((l 1).x1) ((l 1).x2)) = true) (q3 : (vwB 65536 ((l 1).v0) ((l 1).v1) ((l 1).v2)) = true) (q4 : (vwB 1048576 ((l 2).x0) ((l 2).x1) ((l 2).x2)) = true) (q5 : (vwB 65536 ((l 2).v0) ((l 2).v1) ((l 2).v2)) = true) (q6 : (vwB 1048576 ((l 3).x0) ((l 3).x1) ((l 3).x2)) = true) (q7 : (vwB 65536 ((l 3).v0) ((l 3).v1) ((l 3).v2)) = true) : GivesD P 37 [.st [.int .i64 s] ⟨40, 6, 4, fun j => Bv (l j), false⟩, .v (.int .i64 1048576), .v (.int .i64 65536)] (.bool (allB 4 l)) := by
  refine givesD_of_run (E := S1) (lv := 4) (ds := (.lit :: (.lit :: (.lit :: (.b false :: (.b false :: (.lit :: (.lit :: (.b false :: (.b false :: (.lit :: (.lit :: (.b false :: (.b false :: (.lit :: (.lit :: (.b false :: (.b false :: [])))))))))))))))))) (v := .bool true) (ps := [0 < 4, 0 < 4, vwP [.agg #[.int .i64 ((l 0).x0), .int .i64 ((l 0).x1), .int .i64 ((l 0).x2)], .int .i64 1048576], (!(vwB 1048576 ((l 0).x0) ((l 0).x1) ((l 0).x2))) = false, vwP [.agg #[.int .i64 ((l 0).v0), .int .i64 ((l 0).v1), .int .i64 ((l 0).v2)], .int .i64 65536], (!(vwB 65536 ((l 0).v0) ((l 0).v1) ((l 0).v2))) = false, 1 < 4, 1 < 4, vwP [.agg #[.int .i64 ((l 1).x0), .int .i64 ((l 1).x1), .int .i64 ((l 1).x2)], .int .i64 1048576], (!(vwB 1048576 ((l 1).x0) ((l 1).x1) ((l 1).x2))) = false, vwP [.agg #[.int .i64 ((l 1).v0), .int .i64 ((l 1).v1), .int .i64 ((l 1).v2)], .int .i64 65536], (!(vwB 65536 ((l 1).v0) ((l 1).v1) ((l 1).v2))) = false, 2 < 4, 2 < 4, vwP [.agg #[.int .i64 ((l 2).x0), .int .i64 ((l 2).x1), .int .i64 ((l 2).x2)], .int .i64 1048576], (!(vwB 1048576 ((l 2).x0) ((l 2).x1) ((l 2).x2))) = false, vwP [.agg #[.int .i64 ((l 2).v0), .int .i64 ((l 2).v1), .int .i64 ((l 2).v2)], .int .i64 65536], (!(vwB 65536 ((l 2).v0) ((l 2).v1) ((l 2).v2))) = false, 3 < 4, 3 < 4, vwP [.agg #[.int .i64 ((l 3).x0), .int .i64 ((l 3).x1), .int .i64 ((l 3).x2)], .int .i64 1048576], (!(vwB 1048576 ((l 3).x0) ((l 3).x1) ((l 3).x2))) = false, vwP [.agg #[.int .i64 ((l 3).v0), .int .i64 ((l 3).v1), .int .i64 ((l 3).v2)], .int .i64 65536], (!(vwB 65536 ((l 3).v0) ((l 3).v1) ((l 3).v2))) = false]) mo (by kernel_rfl) (ps_cons (by decide) (ps_cons (by decide) (ps_cons ⟨⟨_, _, _, rfl⟩, .inl rfl⟩ (ps_cons (neg_f q0) (ps_cons ⟨⟨_, _, _, rfl⟩, .inr rfl⟩ (ps_cons (neg_f q1) (ps_cons (by decide) (ps_cons (by decide) (ps_cons ⟨⟨_, _, _, rfl⟩, .inl rfl⟩ (ps_cons (neg_f q2) (ps_cons ⟨⟨_, _, _, rfl⟩, .inr rfl⟩ (ps_cons (neg_f q3) (ps_cons (by decide) (ps_cons (by decide) (ps_cons ⟨⟨_, _, _, rfl⟩, .inl rfl⟩ (ps_cons (neg_f q4) (ps_cons ⟨⟨_, _, _, rfl⟩, .inr rfl⟩ (ps_cons (neg_f q5) (ps_cons (by decide) (ps_cons (by decide) (ps_cons ⟨⟨_, _, _, rfl⟩, .inl rfl⟩ (ps_cons (neg_f q6) (ps_cons ⟨⟨_, _, _, rfl⟩, .inr rfl⟩ (ps_cons (neg_f q7) ps_nil)))))))))))))))))))))))) ?_
  have e : allB 4 l = true := by simp [allB, bB, q0, q1, q2, q3, q4, q5, q6, q7]
  rw [e]
theorem sw41_leaf (s : Int) (l : Nat → Bd)  (q0 : (vwB 1048576 ((l 0).x0) ((l 0).x1) ((l 0).x2)) = false) : GivesD P 37 [.st [.int .i64 s] ⟨40, 6, 4, fun j => Bv (l j), false⟩, .v (.int .i64 1048576), .v (.int .i64 65536)] (.bool (allB 4 l)) := by
  refine givesD_of_run (E := S1) (lv := 4) (ds := (.lit :: (.lit :: (.lit :: (.b true :: []))))) (v := .bool false) (ps := [0 < 4, 0 < 4, vwP [.agg #[.int .i64 ((l 0).x0), .int .i64 ((l 0).x1), .int .i64 ((l 0).x2)], .int .i64 1048576], (!(vwB 1048576 ((l 0).x0) ((l 0).x1) ((l 0).x2))) = true]) mo (by kernel_rfl) (ps_cons (by decide) (ps_cons (by decide) (ps_cons ⟨⟨_, _, _, rfl⟩, .inl rfl⟩ (ps_cons (neg_t q0) ps_nil)))) ?_
  have e : allB 4 l = false := by simp [allB, bB, q0]
  rw [e]
theorem sw42_leaf (s : Int) (l : Nat → Bd)  (q0 : (vwB 1048576 ((l 0).x0) ((l 0).x1) ((l 0).x2)) = true) (q1 : (vwB 65536 ((l 0).v0) ((l 0).v1) ((l 0).v2)) = false) : GivesD P 37 [.st [.int .i64 s] ⟨40, 6, 4, fun j => Bv (l j), false⟩, .v (.int .i64 1048576), .v (.int .i64 65536)] (.bool (allB 4 l)) := by
  refine givesD_of_run (E := S1) (lv := 4) (ds := (.lit :: (.lit :: (.lit :: (.b false :: (.b true :: [])))))) (v := .bool false) (ps := [0 < 4, 0 < 4, vwP [.agg #[.int .i64 ((l 0).x0), .int .i64 ((l 0).x1), .int .i64 ((l 0).x2)], .int .i64 1048576], (!(vwB 1048576 ((l 0).x0) ((l 0).x1) ((l 0).x2))) = false, vwP [.agg #[.int .i64 ((l 0).v0), .int .i64 ((l 0).v1), .int .i64 ((l 0).v2)], .int .i64 65536], (!(vwB 65536 ((l 0).v0) ((l 0).v1) ((l 0).v2))) = true]) mo (by kernel_rfl) (ps_cons (by decide) (ps_cons (by decide) (ps_cons ⟨⟨_, _, _, rfl⟩, .inl rfl⟩ (ps_cons (neg_f q0) (ps_cons ⟨⟨_, _, _, rfl⟩, .inr rfl⟩ (ps_cons (neg_t q1) ps_nil)))))) ?_
  have e : allB 4 l = false := by simp [allB, bB, q0, q1]
  rw [e]
theorem sw43_leaf (s : Int) (l : Nat → Bd)  (q0 : (vwB 1048576 ((l 0).x0) ((l 0).x1) ((l 0).x2)) = true) (q1 : (vwB 65536 ((l 0).v0) ((l 0).v1) ((l 0).v2)) = true) (q2 : (vwB 1048576 ((l 1).x0) ((l 1).x1) ((l 1).x2)) = false) : GivesD P 37 [.st [.int .i64 s] ⟨40, 6, 4, fun j => Bv (l j), false⟩, .v (.int .i64 1048576), .v (.int .i64 65536)] (.bool (allB 4 l)) := by
  refine givesD_of_run (E := S1) (lv := 4) (ds := (.lit :: (.lit :: (.lit :: (.b false :: (.b false :: (.lit :: (.lit :: (.b true :: []))))))))) (v := .bool false) (ps := [0 < 4, 0 < 4, vwP [.agg #[.int .i64 ((l 0).x0), .int .i64 ((l 0).x1), .int .i64 ((l 0).x2)], .int .i64 1048576], (!(vwB 1048576 ((l 0).x0) ((l 0).x1) ((l 0).x2))) = false, vwP [.agg #[.int .i64 ((l 0).v0), .int .i64 ((l 0).v1), .int .i64 ((l 0).v2)], .int .i64 65536], (!(vwB 65536 ((l 0).v0) ((l 0).v1) ((l 0).v2))) = false, 1 < 4, 1 < 4, vwP [.agg #[.int .i64 ((l 1).x0), .int .i64 ((l 1).x1), .int .i64 ((l 1).x2)], .int .i64 1048576], (!(vwB 1048576 ((l 1).x0) ((l 1).x1) ((l 1).x2))) = true]) mo (by kernel_rfl) (ps_cons (by decide) (ps_cons (by decide) (ps_cons ⟨⟨_, _, _, rfl⟩, .inl rfl⟩ (ps_cons (neg_f q0) (ps_cons ⟨⟨_, _, _, rfl⟩, .inr rfl⟩ (ps_cons (neg_f q1) (ps_cons (by decide) (ps_cons (by decide) (ps_cons ⟨⟨_, _, _, rfl⟩, .inl rfl⟩ (ps_cons (neg_t q2) ps_nil)))))))))) ?_
  have e : allB 4 l = false := by simp [allB, bB, q0, q1, q2]
  rw [e]
theorem sw44_leaf (s : Int) (l : Nat → Bd)  (q0 : (vwB 1048576 ((l 0).x0) ((l 0).x1) ((l 0).x2)) = true) (q1 : (vwB 65536 ((l 0).v0) ((l 0).v1) ((l 0).v2)) = true) (q2 : (vwB 1048576 ((l 1).x0) ((l 1).x1) ((l 1).x2)) = true) (q3 : (vwB 65536 ((l 1).v0) ((l 1).v1) ((l 1).v2)) = false) : GivesD P 37 [.st [.int .i64 s] ⟨40, 6, 4, fun j => Bv (l j), false⟩, .v (.int .i64 1048576), .v (.int .i64 65536)] (.bool (allB 4 l)) := by
  refine givesD_of_run (E := S1) (lv := 4) (ds := (.lit :: (.lit :: (.lit :: (.b false :: (.b false :: (.lit :: (.lit :: (.b false :: (.b true :: [])))))))))) (v := .bool false) (ps := [0 < 4, 0 < 4, vwP [.agg #[.int .i64 ((l 0).x0), .int .i64 ((l 0).x1), .int .i64 ((l 0).x2)], .int .i64 1048576], (!(vwB 1048576 ((l 0).x0) ((l 0).x1) ((l 0).x2))) = false, vwP [.agg #[.int .i64 ((l 0).v0), .int .i64 ((l 0).v1), .int .i64 ((l 0).v2)], .int .i64 65536], (!(vwB 65536 ((l 0).v0) ((l 0).v1) ((l 0).v2))) = false, 1 < 4, 1 < 4, vwP [.agg #[.int .i64 ((l 1).x0), .int .i64 ((l 1).x1), .int .i64 ((l 1).x2)], .int .i64 1048576], (!(vwB 1048576 ((l 1).x0) ((l 1).x1) ((l 1).x2))) = false, vwP [.agg #[.int .i64 ((l 1).v0), .int .i64 ((l 1).v1), .int .i64 ((l 1).v2)], .int .i64 65536], (!(vwB 65536 ((l 1).v0) ((l 1).v1) ((l 1).v2))) = true]) mo (by kernel_rfl) (ps_cons (by decide) (ps_cons (by decide) (ps_cons ⟨⟨_, _, _, rfl⟩, .inl rfl⟩ (ps_cons (neg_f q0) (ps_cons ⟨⟨_, _, _, rfl⟩, .inr rfl⟩ (ps_cons (neg_f q1) (ps_cons (by decide) (ps_cons (by decide) (ps_cons ⟨⟨_, _, _, rfl⟩, .inl rfl⟩ (ps_cons (neg_f q2) (ps_cons ⟨⟨_, _, _, rfl⟩, .inr rfl⟩ (ps_cons (neg_t q3) ps_nil)))))))))))) ?_
  have e : allB 4 l = false := by simp [allB, bB, q0, q1, q2, q3]
  rw [e]
theorem sw45_leaf (s : Int) (l : Nat → Bd)  (q0 : (vwB 1048576 ((l 0).x0) ((l 0).x1) ((l 0).x2)) = true) (q1 : (vwB 65536 ((l 0).v0) ((l 0).v1) ((l 0).v2)) = true) (q2 : (vwB 1048576 ((l 1).x0) ((l 1).x1) ((l 1).x2)) = true) (q3 : (vwB 65536 ((l 1).v0) ((l 1).v1) ((l 1).v2)) = true) (q4 : (vwB 1048576 ((l 2).x0) ((l 2).x1) ((l 2).x2)) = false) : GivesD P 37 [.st [.int .i64 s] ⟨40, 6, 4, fun j => Bv (l j), false⟩, .v (.int .i64 1048576), .v (.int .i64 65536)] (.bool (allB 4 l)) := by
  refine givesD_of_run (E := S1) (lv := 4) (ds := (.lit :: (.lit :: (.lit :: (.b false :: (.b false :: (.lit :: (.lit :: (.b false :: (.b false :: (.lit :: (.lit :: (.b true :: []))))))))))))) (v := .bool false) (ps := [0 < 4, 0 < 4, vwP [.agg #[.int .i64 ((l 0).x0), .int .i64 ((l 0).x1), .int .i64 ((l 0).x2)], .int .i64 1048576], (!(vwB 1048576 ((l 0).x0) ((l 0).x1) ((l 0).x2))) = false, vwP [.agg #[.int .i64 ((l 0).v0), .int .i64 ((l 0).v1), .int .i64 ((l 0).v2)], .int .i64 65536], (!(vwB 65536 ((l 0).v0) ((l 0).v1) ((l 0).v2))) = false, 1 < 4, 1 < 4, vwP [.agg #[.int .i64 ((l 1).x0), .int .i64 ((l 1).x1), .int .i64 ((l 1).x2)], .int .i64 1048576], (!(vwB 1048576 ((l 1).x0) ((l 1).x1) ((l 1).x2))) = false, vwP [.agg #[.int .i64 ((l 1).v0), .int .i64 ((l 1).v1), .int .i64 ((l 1).v2)], .int .i64 65536], (!(vwB 65536 ((l 1).v0) ((l 1).v1) ((l 1).v2))) = false, 2 < 4, 2 < 4, vwP [.agg #[.int .i64 ((l 2).x0), .int .i64 ((l 2).x1), .int .i64 ((l 2).x2)], .int .i64 1048576], (!(vwB 1048576 ((l 2).x0) ((l 2).x1) ((l 2).x2))) = true]) mo (by kernel_rfl) (ps_cons (by decide) (ps_cons (by decide) (ps_cons ⟨⟨_, _, _, rfl⟩, .inl rfl⟩ (ps_cons (neg_f q0) (ps_cons ⟨⟨_, _, _, rfl⟩, .inr rfl⟩ (ps_cons (neg_f q1) (ps_cons (by decide) (ps_cons (by decide) (ps_cons ⟨⟨_, _, _, rfl⟩, .inl rfl⟩ (ps_cons (neg_f q2) (ps_cons ⟨⟨_, _, _, rfl⟩, .inr rfl⟩ (ps_cons (neg_f q3) (ps_cons (by decide) (ps_cons (by decide) (ps_cons ⟨⟨_, _, _, rfl⟩, .inl rfl⟩ (ps_cons (neg_t q4) ps_nil)))))))))))))))) ?_
  have e : allB 4 l = false := by simp [allB, bB, q0, q1, q2, q3, q4]
  rw [e]
theorem sw46_leaf (s : Int) (l : Nat → Bd)  (q0 : (vwB 1048576 ((l 0).x0) ((l 0).x1) ((l 0).x2)) = true) (q1 : (vwB 65536 ((l 0).v0) ((l 0).v1) ((l 0).v2)) = true) (q2 : (vwB 1048576 ((l 1).x0) ((l 1).x1) ((l 1).x2)) = true) (q3 : (vwB 65536 ((l 1).v0) ((l 1).v1) ((l 1).v2)) = true) (q4 : (vwB 1048576 ((l 2).x0) ((l 2).x1) ((l 2).x2)) = true) (q5 : (vwB 65536 ((l 2).v0) ((l 2).v1) ((l 2).v2)) = false) : GivesD P 37 [.st [.int .i64 s] ⟨40, 6, 4, fun j => Bv (l j), false⟩, .v (.int .i64 1048576), .v (.int .i64 65536)] (.bool (allB 4 l)) := by
  refine givesD_of_run (E := S1) (lv := 4) (ds := (.lit :: (.lit :: (.lit :: (.b false :: (.b false :: (.lit :: (.lit :: (.b false :: (.b false :: (.lit :: (.lit :: (.b false :: (.b true :: [])))))))))))))) (v := .bool false) (ps := [0 < 4, 0 < 4, vwP [.agg #[.int .i64 ((l 0).x0), .int .i64 ((l 0).x1), .int .i64 ((l 0).x2)], .int .i64 1048576], (!(vwB 1048576 ((l 0).x0) ((l 0).x1) ((l 0).x2))) = false, vwP [.agg #[.int .i64 ((l 0).v0), .int .i64 ((l 0).v1), .int .i64 ((l 0).v2)], .int .i64 65536], (!(vwB 65536 ((l 0).v0) ((l 0).v1) ((l 0).v2))) = false, 1 < 4, 1 < 4, vwP [.agg #[.int .i64 ((l 1).x0), .int .i64 ((l 1).x1), .int .i64 ((l 1).x2)], .int .i64 1048576], (!(vwB 1048576 ((l 1).x0) ((l 1).x1) ((l 1).x2))) = false, vwP [.agg #[.int .i64 ((l 1).v0), .int .i64 ((l 1).v1), .int .i64 ((l 1).v2)], .int .i64 65536], (!(vwB 65536 ((l 1).v0) ((l 1).v1) ((l 1).v2))) = false, 2 < 4, 2 < 4, vwP [.agg #[.int .i64 ((l 2).x0), .int .i64 ((l 2).x1), .int .i64 ((l 2).x2)], .int .i64 1048576], (!(vwB 1048576 ((l 2).x0) ((l 2).x1) ((l 2).x2))) = false, vwP [.agg #[.int .i64 ((l 2).v0), .int .i64 ((l 2).v1), .int .i64 ((l 2).v2)], .int .i64 65536], (!(vwB 65536 ((l 2).v0) ((l 2).v1) ((l 2).v2))) = true]) mo (by kernel_rfl) (ps_cons (by decide) (ps_cons (by decide) (ps_cons ⟨⟨_, _, _, rfl⟩, .inl rfl⟩ (ps_cons (neg_f q0) (ps_cons ⟨⟨_, _, _, rfl⟩, .inr rfl⟩ (ps_cons (neg_f q1) (ps_cons (by decide) (ps_cons (by decide) (ps_cons ⟨⟨_, _, _, rfl⟩, .inl rfl⟩ (ps_cons (neg_f q2) (ps_cons ⟨⟨_, _, _, rfl⟩, .inr rfl⟩ (ps_cons (neg_f q3) (ps_cons (by decide) (ps_cons (by decide) (ps_cons ⟨⟨_, _, _, rfl⟩, .inl rfl⟩ (ps_cons (neg_f q4) (ps_cons ⟨⟨_, _, _, rfl⟩, .inr rfl⟩ (ps_cons (neg_t q5) ps_nil)))))))))))))))))) ?_
  have e : allB 4 l = false := by simp [allB, bB, q0, q1, q2, q3, q4, q5]
  rw [e]
theorem sw47_leaf (s : Int) (l : Nat → Bd)  (q0 : (vwB 1048576 ((l 0).x0) ((l 0).x1) ((l 0).x2)) = true) (q1 : (vwB 65536 ((l 0).v0) ((l 0).v1) ((l 0).v2)) = true) (q2 : (vwB 1048576 ((l 1).x0) ((l 1).x1) ((l 1).x2)) = true) (q3 : (vwB 65536 ((l 1).v0) ((l 1).v1) ((l 1).v2)) = true) (q4 : (vwB 1048576 ((l 2).x0) ((l 2).x1) ((l 2).x2)) = true) (q5 : (vwB 65536 ((l 2).v0) ((l 2).v1) ((l 2).v2)) = true) (q6 : (vwB 1048576 ((l 3).x0) ((l 3).x1) ((l 3).x2)) = false) : GivesD P 37 [.st [.int .i64 s] ⟨40, 6, 4, fun j => Bv (l j), false⟩, .v (.int .i64 1048576), .v (.int .i64 65536)] (.bool (allB 4 l)) := by
  refine givesD_of_run (E := S1) (lv := 4) (ds := (.lit :: (.lit :: (.lit :: (.b false :: (.b false :: (.lit :: (.lit :: (.b false :: (.b false :: (.lit :: (.lit :: (.b false :: (.b false :: (.lit :: (.lit :: (.b true :: []))))))))))))))))) (v := .bool false) (ps := [0 < 4, 0 < 4, vwP [.agg #[.int .i64 ((l 0).x0), .int .i64 ((l 0).x1), .int .i64 ((l 0).x2)], .int .i64 1048576], (!(vwB 1048576 ((l 0).x0) ((l 0).x1) ((l 0).x2))) = false, vwP [.agg #[.int .i64 ((l 0).v0), .int .i64 ((l 0).v1), .int .i64 ((l 0).v2)], .int .i64 65536], (!(vwB 65536 ((l 0).v0) ((l 0).v1) ((l 0).v2))) = false, 1 < 4, 1 < 4, vwP [.agg #[.int .i64 ((l 1).x0), .int .i64 ((l 1).x1), .int .i64 ((l 1).x2)], .int .i64 1048576], (!(vwB 1048576 ((l 1).x0) ((l 1).x1) ((l 1).x2))) = false, vwP [.agg #[.int .i64 ((l 1).v0), .int .i64 ((l 1).v1), .int .i64 ((l 1).v2)], .int .i64 65536], (!(vwB 65536 ((l 1).v0) ((l 1).v1) ((l 1).v2))) = false, 2 < 4, 2 < 4, vwP [.agg #[.int .i64 ((l 2).x0), .int .i64 ((l 2).x1), .int .i64 ((l 2).x2)], .int .i64 1048576], (!(vwB 1048576 ((l 2).x0) ((l 2).x1) ((l 2).x2))) = false, vwP [.agg #[.int .i64 ((l 2).v0), .int .i64 ((l 2).v1), .int .i64 ((l 2).v2)], .int .i64 65536], (!(vwB 65536 ((l 2).v0) ((l 2).v1) ((l 2).v2))) = false, 3 < 4, 3 < 4, vwP [.agg #[.int .i64 ((l 3).x0), .int .i64 ((l 3).x1), .int .i64 ((l 3).x2)], .int .i64 1048576], (!(vwB 1048576 ((l 3).x0) ((l 3).x1) ((l 3).x2))) = true]) mo (by kernel_rfl) (ps_cons (by decide) (ps_cons (by decide) (ps_cons ⟨⟨_, _, _, rfl⟩, .inl rfl⟩ (ps_cons (neg_f q0) (ps_cons ⟨⟨_, _, _, rfl⟩, .inr rfl⟩ (ps_cons (neg_f q1) (ps_cons (by decide) (ps_cons (by decide) (ps_cons ⟨⟨_, _, _, rfl⟩, .inl rfl⟩ (ps_cons (neg_f q2) (ps_cons ⟨⟨_, _, _, rfl⟩, .inr rfl⟩ (ps_cons (neg_f q3) (ps_cons (by decide) (ps_cons (by decide) (ps_cons ⟨⟨_, _, _, rfl⟩, .inl rfl⟩ (ps_cons (neg_f q4) (ps_cons ⟨⟨_, _, _, rfl⟩, .inr rfl⟩ (ps_cons (neg_f q5) (ps_cons (by decide) (ps_cons (by decide) (ps_cons ⟨⟨_, _, _, rfl⟩, .inl rfl⟩ (ps_cons (neg_t q6) ps_nil)))))))))))))))))))))) ?_
  have e : allB 4 l = false := by simp [allB, bB, q0, q1, q2, q3, q4, q5, q6]
  rw [e]
theorem sw48_leaf (s : Int) (l : Nat → Bd)  (q0 : (vwB 1048576 ((l 0).x0) ((l 0).x1) ((l 0).x2)) = true) (q1 : (vwB 65536 ((l 0).v0) ((l 0).v1) ((l 0).v2)) = true) (q2 : (vwB 1048576 ((l 1).x0) ((l 1).x1) ((l 1).x2)) = true) (q3 : (vwB 65536 ((l 1).v0) ((l 1).v1) ((l 1).v2)) = true) (q4 : (vwB 1048576 ((l 2).x0) ((l 2).x1) ((l 2).x2)) = true) (q5 : (vwB 65536 ((l 2).v0) ((l 2).v1) ((l 2).v2)) = true) (q6 : (vwB 1048576 ((l 3).x0) ((l 3).x1) ((l 3).x2)) = true) (q7 : (vwB 65536 ((l 3).v0) ((l 3).v1) ((l 3).v2)) = false) : GivesD P 37 [.st [.int .i64 s] ⟨40, 6, 4, fun j => Bv (l j), false⟩, .v (.int .i64 1048576), .v (.int .i64 65536)] (.bool (allB 4 l)) := by
  refine givesD_of_run (E := S1) (lv := 4) (ds := (.lit :: (.lit :: (.lit :: (.b false :: (.b false :: (.lit :: (.lit :: (.b false :: (.b false :: (.lit :: (.lit :: (.b false :: (.b false :: (.lit :: (.lit :: (.b false :: (.b true :: [])))))))))))))))))) (v := .bool false) (ps := [0 < 4, 0 < 4, vwP [.agg #[.int .i64 ((l 0).x0), .int .i64 ((l 0).x1), .int .i64 ((l 0).x2)], .int .i64 1048576], (!(vwB 1048576 ((l 0).x0) ((l 0).x1) ((l 0).x2))) = false, vwP [.agg #[.int .i64 ((l 0).v0), .int .i64 ((l 0).v1), .int .i64 ((l 0).v2)], .int .i64 65536], (!(vwB 65536 ((l 0).v0) ((l 0).v1) ((l 0).v2))) = false, 1 < 4, 1 < 4, vwP [.agg #[.int .i64 ((l 1).x0), .int .i64 ((l 1).x1), .int .i64 ((l 1).x2)], .int .i64 1048576], (!(vwB 1048576 ((l 1).x0) ((l 1).x1) ((l 1).x2))) = false, vwP [.agg #[.int .i64 ((l 1).v0), .int .i64 ((l 1).v1), .int .i64 ((l 1).v2)], .int .i64 65536], (!(vwB 65536 ((l 1).v0) ((l 1).v1) ((l 1).v2))) = false, 2 < 4, 2 < 4, vwP [.agg #[.int .i64 ((l 2).x0), .int .i64 ((l 2).x1), .int .i64 ((l 2).x2)], .int .i64 1048576], (!(vwB 1048576 ((l 2).x0) ((l 2).x1) ((l 2).x2))) = false, vwP [.agg #[.int .i64 ((l 2).v0), .int .i64 ((l 2).v1), .int .i64 ((l 2).v2)], .int .i64 65536], (!(vwB 65536 ((l 2).v0) ((l 2).v1) ((l 2).v2))) = false, 3 < 4, 3 < 4, vwP [.agg #[.int .i64 ((l 3).x0), .int .i64 ((l 3).x1), .int .i64 ((l 3).x2)], .int .i64 1048576], (!(vwB 1048576 ((l 3).x0) ((l 3).x1) ((l 3).x2))) = false, vwP [.agg #[.int .i64 ((l 3).v0), .int .i64 ((l 3).v1), .int .i64 ((l 3).v2)], .int .i64 65536], (!(vwB 65536 ((l 3).v0) ((l 3).v1) ((l 3).v2))) = true]) mo (by kernel_rfl) (ps_cons (by decide) (ps_cons (by decide) (ps_cons ⟨⟨_, _, _, rfl⟩, .inl rfl⟩ (ps_cons (neg_f q0) (ps_cons ⟨⟨_, _, _, rfl⟩, .inr rfl⟩ (ps_cons (neg_f q1) (ps_cons (by decide) (ps_cons (by decide) (ps_cons ⟨⟨_, _, _, rfl⟩, .inl rfl⟩ (ps_cons (neg_f q2) (ps_cons ⟨⟨_, _, _, rfl⟩, .inr rfl⟩ (ps_cons (neg_f q3) (ps_cons (by decide) (ps_cons (by decide) (ps_cons ⟨⟨_, _, _, rfl⟩, .inl rfl⟩ (ps_cons (neg_f q4) (ps_cons ⟨⟨_, _, _, rfl⟩, .inr rfl⟩ (ps_cons (neg_f q5) (ps_cons (by decide) (ps_cons (by decide) (ps_cons ⟨⟨_, _, _, rfl⟩, .inl rfl⟩ (ps_cons (neg_f q6) (ps_cons ⟨⟨_, _, _, rfl⟩, .inr rfl⟩ (ps_cons (neg_t q7) ps_nil)))))))))))))))))))))))) ?_
  have e : allB 4 l = false := by simp [allB, bB, q0, q1, q2, q3, q4, q5, q6, q7]
  rw [e]
theorem sw4_all (s : Int) (l : Nat → Bd) : GivesD P 37 [.st [.int .i64 s] ⟨40, 6, 4, fun j => Bv (l j), false⟩, .v (.int .i64 1048576), .v (.int .i64 65536)] (.bool (allB 4 l)) := by
  cases q0 : (vwB 1048576 ((l 0).x0) ((l 0).x1) ((l 0).x2)) with
  | true =>
    cases q1 : (vwB 65536 ((l 0).v0) ((l 0).v1) ((l 0).v2)) with
    | true =>
      cases q2 : (vwB 1048576 ((l 1).x0) ((l 1).x1) ((l 1).x2)) with
      | true =>
        cases q3 : (vwB 65536 ((l 1).v0) ((l 1).v1) ((l 1).v2)) with
        | true =>
          cases q4 : (vwB 1048576 ((l 2).x0) ((l 2).x1) ((l 2).x2)) with
          | true =>
            cases q5 : (vwB 65536 ((l 2).v0) ((l 2).v1) ((l 2).v2)) with
            | true =>
              cases q6 : (vwB 1048576 ((l 3).x0) ((l 3).x1) ((l 3).x2)) with
              | true =>
                cases q7 : (vwB 65536 ((l 3).v0) ((l 3).v1) ((l 3).v2)) with
                | true =>
                  exact sw40_leaf s l  q0 q1 q2 q3 q4 q5 q6 q7
                | false =>
                  exact sw48_leaf s l  q0 q1 q2 q3 q4 q5 q6 q7
              | false =>
                exact sw47_leaf s l  q0 q1 q2 q3 q4 q5 q6
            | false =>
              exact sw46_leaf s l  q0 q1 q2 q3 q4 q5
          | false =>
            exact sw45_leaf s l  q0 q1 q2 q3 q4
        | false =>
          exact sw44_leaf s l  q0 q1 q2 q3
      | false =>
        exact sw43_leaf s l  q0 q1 q2
    | false =>
      exact sw42_leaf s l  q0 q1
  | false =>
    exact sw41_leaf s l  q0
noncomputable def rw_b : Code := bodyOf (innerOf P 26 0)
def rw_st (s : Int) (n : Nat) (l : Nat → Bd) (i : Int) (o : Bool) : St := ⟨[(7, .v (.int .i64 i)), (6, .v (.bool o)), (1, .v (.int .i64 1048576)), (2, .v (.int .i64 65536)), (3, .ptr 3 0)], [(3, (.parts [.v (.int .i64 s), .row 900], 24))], [], [900, 3, 0, 1, 2], [(900, some ⟨40, 6, n, fun j => Bv (l j), false⟩)]⟩
theorem rw_w0 (s : Int) (n : Nat) (l : Nat → Bd) (i : Int) (o : Bool) (k_ : Nat) : stepF P S0 1 66 rw_b (rw_st s n l i o) (.b true :: (.lit :: (.lit :: (.n i.toNat :: (.lit :: (.n i.toNat :: (.lit :: (.lit :: (.lit :: (.b true :: [])))))))))) 1000 (fun _ => some (rw_st s n l i false)) k_ =
  some (.ret, k_, [(decide (i < ((n : Nat) : Int))) = true, i = ↑i.toNat, i.toNat < n, i.toNat < n, i = ↑i.toNat, i.toNat < n, i.toNat < n, (decide ((l i.toNat).x0 < -1048576)) = true, (.int .i64 i : Value) = .int .i64 i, (.bool false : Value) = .bool false, (.int .i64 1048576 : Value) = .int .i64 1048576, (.int .i64 65536 : Value) = .int .i64 65536, (.ptr 3 0 : SV) = .ptr 3 0, (.int .i64 s : Value) = .int .i64 s, (.row 900 : SV) = .row 900, n = n, ∀ j, j < n → Bv (l j) = Bv (l j)]) := by kernel_rfl
theorem rw_w0_ok (s : Int) (n : Nat) (l : Nat → Bd) (i : Int) (o : Bool) (q0 : (decide (i < ((n : Nat) : Int))) = true) (q1 : (decide ((l i.toNat).x0 < -1048576)) = true) (x0 : i = ↑i.toNat) (x1 : i.toNat < n) (x2 : i.toNat < n) (x3 : i = ↑i.toNat) (x4 : i.toNat < n) (x5 : i.toNat < n) {good : Out → St → Prop} (hg : ∀ S1, Keeps S1 (rw_st s n l i false) → good .ret S1) : StepTo P S0 1 66 rw_b (rw_st s n l i o) good :=
  step_run (rw_w0 s n l i o) (ps_cons q0 (ps_cons x0 (ps_cons x1 (ps_cons x2 (ps_cons x3 (ps_cons x4 (ps_cons x5 (ps_cons q1 (ps_cons rfl (ps_cons rfl (ps_cons rfl (ps_cons rfl (ps_cons rfl (ps_cons rfl (ps_cons rfl (ps_cons rfl (ps_cons (fun _ _ => rfl) ps_nil))))))))))))))))) rfl hg
theorem rw_w1 (s : Int) (n : Nat) (l : Nat → Bd) (i : Int) (o : Bool) (k_ : Nat) : stepF P S0 1 66 rw_b (rw_st s n l i o) (.b false :: []) 1000 (fun _ => some (rw_st s n l i o)) k_ =
  some ((.exit 0), k_, [(decide (i < ((n : Nat) : Int))) = false, (.int .i64 i : Value) = .int .i64 i, (.bool o : Value) = .bool o, (.int .i64 1048576 : Value) = .int .i64 1048576, (.int .i64 65536 : Value) = .int .i64 65536, (.ptr 3 0 : SV) = .ptr 3 0, (.int .i64 s : Value) = .int .i64 s, (.row 900 : SV) = .row 900, n = n, ∀ j, j < n → Bv (l j) = Bv (l j)]) := by kernel_rfl
theorem rw_w1_ok (s : Int) (n : Nat) (l : Nat → Bd) (i : Int) (o : Bool) (q0 : (decide (i < ((n : Nat) : Int))) = false)  {good : Out → St → Prop} (hg : ∀ S1, Keeps S1 (rw_st s n l i o) → good (.exit 0) S1) : StepTo P S0 1 66 rw_b (rw_st s n l i o) good :=
  step_run (rw_w1 s n l i o) (ps_cons q0 (ps_cons rfl (ps_cons rfl (ps_cons rfl (ps_cons rfl (ps_cons rfl (ps_cons rfl (ps_cons rfl (ps_cons rfl (ps_cons (fun _ _ => rfl) ps_nil)))))))))) rfl hg
theorem rw_w2 (s : Int) (n : Nat) (l : Nat → Bd) (i : Int) (o : Bool) (k_ : Nat) : stepF P S0 1 66 rw_b (rw_st s n l i o) (.b true :: (.lit :: (.lit :: (.n i.toNat :: (.lit :: (.n i.toNat :: (.lit :: (.lit :: (.lit :: (.b false :: (.b true :: []))))))))))) 1000 (fun _ => some (rw_st s n l i false)) k_ =
  some (.ret, k_, [(decide (i < ((n : Nat) : Int))) = true, i = ↑i.toNat, i.toNat < n, i.toNat < n, i = ↑i.toNat, i.toNat < n, i.toNat < n, (decide ((l i.toNat).x0 < -1048576)) = false, (decide ((l i.toNat).x0 > 1048576)) = true, (.int .i64 i : Value) = .int .i64 i, (.bool false : Value) = .bool false, (.int .i64 1048576 : Value) = .int .i64 1048576, (.int .i64 65536 : Value) = .int .i64 65536, (.ptr 3 0 : SV) = .ptr 3 0, (.int .i64 s : Value) = .int .i64 s, (.row 900 : SV) = .row 900, n = n, ∀ j, j < n → Bv (l j) = Bv (l j)]) := by kernel_rfl
theorem rw_w2_ok (s : Int) (n : Nat) (l : Nat → Bd) (i : Int) (o : Bool) (q0 : (decide (i < ((n : Nat) : Int))) = true) (q1 : (decide ((l i.toNat).x0 < -1048576)) = false) (q2 : (decide ((l i.toNat).x0 > 1048576)) = true) (x0 : i = ↑i.toNat) (x1 : i.toNat < n) (x2 : i.toNat < n) (x3 : i = ↑i.toNat) (x4 : i.toNat < n) (x5 : i.toNat < n) {good : Out → St → Prop} (hg : ∀ S1, Keeps S1 (rw_st s n l i false) → good .ret S1) : StepTo P S0 1 66 rw_b (rw_st s n l i o) good :=
  step_run (rw_w2 s n l i o) (ps_cons q0 (ps_cons x0 (ps_cons x1 (ps_cons x2 (ps_cons x3 (ps_cons x4 (ps_cons x5 (ps_cons q1 (ps_cons q2 (ps_cons rfl (ps_cons rfl (ps_cons rfl (ps_cons rfl (ps_cons rfl (ps_cons rfl (ps_cons rfl (ps_cons rfl (ps_cons (fun _ _ => rfl) ps_nil)))))))))))))))))) rfl hg
theorem rw_w3 (s : Int) (n : Nat) (l : Nat → Bd) (i : Int) (o : Bool) (k_ : Nat) : stepF P S0 1 66 rw_b (rw_st s n l i o) (.b true :: (.lit :: (.lit :: (.n i.toNat :: (.lit :: (.n i.toNat :: (.lit :: (.lit :: (.lit :: (.b false :: (.b false :: (.b true :: [])))))))))))) 1000 (fun _ => some (rw_st s n l i false)) k_ =
  some (.ret, k_, [(decide (i < ((n : Nat) : Int))) = true, i = ↑i.toNat, i.toNat < n, i.toNat < n, i = ↑i.toNat, i.toNat < n, i.toNat < n, (decide ((l i.toNat).x0 < -1048576)) = false, (decide ((l i.toNat).x0 > 1048576)) = false, (decide ((l i.toNat).v0 < -65536)) = true, (.int .i64 i : Value) = .int .i64 i, (.bool false : Value) = .bool false, (.int .i64 1048576 : Value) = .int .i64 1048576, (.int .i64 65536 : Value) = .int .i64 65536, (.ptr 3 0 : SV) = .ptr 3 0, (.int .i64 s : Value) = .int .i64 s, (.row 900 : SV) = .row 900, n = n, ∀ j, j < n → Bv (l j) = Bv (l j)]) := by kernel_rfl
theorem rw_w3_ok (s : Int) (n : Nat) (l : Nat → Bd) (i : Int) (o : Bool) (q0 : (decide (i < ((n : Nat) : Int))) = true) (q1 : (decide ((l i.toNat).x0 < -1048576)) = false) (q2 : (decide ((l i.toNat).x0 > 1048576)) = false) (q3 : (decide ((l i.toNat).v0 < -65536)) = true) (x0 : i = ↑i.toNat) (x1 : i.toNat < n) (x2 : i.toNat < n) (x3 : i = ↑i.toNat) (x4 : i.toNat < n) (x5 : i.toNat < n) {good : Out → St → Prop} (hg : ∀ S1, Keeps S1 (rw_st s n l i false) → good .ret S1) : StepTo P S0 1 66 rw_b (rw_st s n l i o) good :=
  step_run (rw_w3 s n l i o) (ps_cons q0 (ps_cons x0 (ps_cons x1 (ps_cons x2 (ps_cons x3 (ps_cons x4 (ps_cons x5 (ps_cons q1 (ps_cons q2 (ps_cons q3 (ps_cons rfl (ps_cons rfl (ps_cons rfl (ps_cons rfl (ps_cons rfl (ps_cons rfl (ps_cons rfl (ps_cons rfl (ps_cons (fun _ _ => rfl) ps_nil))))))))))))))))))) rfl hg
theorem rw_w4 (s : Int) (n : Nat) (l : Nat → Bd) (i : Int) (o : Bool) (k_ : Nat) : stepF P S0 1 66 rw_b (rw_st s n l i o) (.b true :: (.lit :: (.lit :: (.n i.toNat :: (.lit :: (.n i.toNat :: (.lit :: (.lit :: (.lit :: (.b false :: (.b false :: (.b false :: (.b true :: []))))))))))))) 1000 (fun _ => some (rw_st s n l i false)) k_ =
  some (.ret, k_, [(decide (i < ((n : Nat) : Int))) = true, i = ↑i.toNat, i.toNat < n, i.toNat < n, i = ↑i.toNat, i.toNat < n, i.toNat < n, (decide ((l i.toNat).x0 < -1048576)) = false, (decide ((l i.toNat).x0 > 1048576)) = false, (decide ((l i.toNat).v0 < -65536)) = false, (decide ((l i.toNat).v0 > 65536)) = true, (.int .i64 i : Value) = .int .i64 i, (.bool false : Value) = .bool false, (.int .i64 1048576 : Value) = .int .i64 1048576, (.int .i64 65536 : Value) = .int .i64 65536, (.ptr 3 0 : SV) = .ptr 3 0, (.int .i64 s : Value) = .int .i64 s, (.row 900 : SV) = .row 900, n = n, ∀ j, j < n → Bv (l j) = Bv (l j)]) := by kernel_rfl
theorem rw_w4_ok (s : Int) (n : Nat) (l : Nat → Bd) (i : Int) (o : Bool) (q0 : (decide (i < ((n : Nat) : Int))) = true) (q1 : (decide ((l i.toNat).x0 < -1048576)) = false) (q2 : (decide ((l i.toNat).x0 > 1048576)) = false) (q3 : (decide ((l i.toNat).v0 < -65536)) = false) (q4 : (decide ((l i.toNat).v0 > 65536)) = true) (x0 : i = ↑i.toNat) (x1 : i.toNat < n) (x2 : i.toNat < n) (x3 : i = ↑i.toNat) (x4 : i.toNat < n) (x5 : i.toNat < n) {good : Out → St → Prop} (hg : ∀ S1, Keeps S1 (rw_st s n l i false) → good .ret S1) : StepTo P S0 1 66 rw_b (rw_st s n l i o) good :=
  step_run (rw_w4 s n l i o) (ps_cons q0 (ps_cons x0 (ps_cons x1 (ps_cons x2 (ps_cons x3 (ps_cons x4 (ps_cons x5 (ps_cons q1 (ps_cons q2 (ps_cons q3 (ps_cons q4 (ps_cons rfl (ps_cons rfl (ps_cons rfl (ps_cons rfl (ps_cons rfl (ps_cons rfl (ps_cons rfl (ps_cons rfl (ps_cons (fun _ _ => rfl) ps_nil)))))))))))))))))))) rfl hg
theorem rw_w5 (s : Int) (n : Nat) (l : Nat → Bd) (i : Int) (o : Bool) (k_ : Nat) : stepF P S0 1 66 rw_b (rw_st s n l i o) (.b true :: (.lit :: (.lit :: (.n i.toNat :: (.lit :: (.n i.toNat :: (.lit :: (.lit :: (.lit :: (.b false :: (.b false :: (.b false :: (.b false :: (.lit :: (.n i.toNat :: (.lit :: (.n i.toNat :: (.lit :: (.lit :: (.lit :: (.b true :: []))))))))))))))))))))) 1000 (fun _ => some (rw_st s n l i false)) k_ =
  some (.ret, k_, [(decide (i < ((n : Nat) : Int))) = true, i = ↑i.toNat, i.toNat < n, i.toNat < n, i = ↑i.toNat, i.toNat < n, i.toNat < n, (decide ((l i.toNat).x0 < -1048576)) = false, (decide ((l i.toNat).x0 > 1048576)) = false, (decide ((l i.toNat).v0 < -65536)) = false, (decide ((l i.toNat).v0 > 65536)) = false, i = ↑i.toNat, i.toNat < n, i.toNat < n, i = ↑i.toNat, i.toNat < n, i.toNat < n, (decide ((l i.toNat).x1 < -1048576)) = true, (.int .i64 i : Value) = .int .i64 i, (.bool false : Value) = .bool false, (.int .i64 1048576 : Value) = .int .i64 1048576, (.int .i64 65536 : Value) = .int .i64 65536, (.ptr 3 0 : SV) = .ptr 3 0, (.int .i64 s : Value) = .int .i64 s, (.row 900 : SV) = .row 900, n = n, ∀ j, j < n → Bv (l j) = Bv (l j)]) := by kernel_rfl
theorem rw_w5_ok (s : Int) (n : Nat) (l : Nat → Bd) (i : Int) (o : Bool) (q0 : (decide (i < ((n : Nat) : Int))) = true) (q1 : (decide ((l i.toNat).x0 < -1048576)) = false) (q2 : (decide ((l i.toNat).x0 > 1048576)) = false) (q3 : (decide ((l i.toNat).v0 < -65536)) = false) (q4 : (decide ((l i.toNat).v0 > 65536)) = false) (q5 : (decide ((l i.toNat).x1 < -1048576)) = true) (x0 : i = ↑i.toNat) (x1 : i.toNat < n) (x2 : i.toNat < n) (x3 : i = ↑i.toNat) (x4 : i.toNat < n) (x5 : i.toNat < n) (x6 : i = ↑i.toNat) (x7 : i.toNat < n) (x8 : i.toNat < n) (x9 : i = ↑i.toNat) (x10 : i.toNat < n) (x11 : i.toNat < n) {good : Out → St → Prop} (hg : ∀ S1, Keeps S1 (rw_st s n l i false) → good .ret S1) : StepTo P S0 1 66 rw_b (rw_st s n l i o) good :=
  step_run (rw_w5 s n l i o) (ps_cons q0 (ps_cons x0 (ps_cons x1 (ps_cons x2 (ps_cons x3 (ps_cons x4 (ps_cons x5 (ps_cons q1 (ps_cons q2 (ps_cons q3 (ps_cons q4 (ps_cons x6 (ps_cons x7 (ps_cons x8 (ps_cons x9 (ps_cons x10 (ps_cons x11 (ps_cons q5 (ps_cons rfl (ps_cons rfl (ps_cons rfl (ps_cons rfl (ps_cons rfl (ps_cons rfl (ps_cons rfl (ps_cons rfl (ps_cons (fun _ _ => rfl) ps_nil))))))))))))))))))))))))))) rfl hg
theorem rw_w6 (s : Int) (n : Nat) (l : Nat → Bd) (i : Int) (o : Bool) (k_ : Nat) : stepF P S0 1 66 rw_b (rw_st s n l i o) (.b true :: (.lit :: (.lit :: (.n i.toNat :: (.lit :: (.n i.toNat :: (.lit :: (.lit :: (.lit :: (.b false :: (.b false :: (.b false :: (.b false :: (.lit :: (.n i.toNat :: (.lit :: (.n i.toNat :: (.lit :: (.lit :: (.lit :: (.b false :: (.b true :: [])))))))))))))))))))))) 1000 (fun _ => some (rw_st s n l i false)) k_ =
  some (.ret, k_, [(decide (i < ((n : Nat) : Int))) = true, i = ↑i.toNat, i.toNat < n, i.toNat < n, i = ↑i.toNat, i.toNat < n, i.toNat < n, (decide ((l i.toNat).x0 < -1048576)) = false, (decide ((l i.toNat).x0 > 1048576)) = false, (decide ((l i.toNat).v0 < -65536)) = false, (decide ((l i.toNat).v0 > 65536)) = false, i = ↑i.toNat, i.toNat < n, i.toNat < n, i = ↑i.toNat, i.toNat < n, i.toNat < n, (decide ((l i.toNat).x1 < -1048576)) = false, (decide ((l i.toNat).x1 > 1048576)) = true, (.int .i64 i : Value) = .int .i64 i, (.bool false : Value) = .bool false, (.int .i64 1048576 : Value) = .int .i64 1048576, (.int .i64 65536 : Value) = .int .i64 65536, (.ptr 3 0 : SV) = .ptr 3 0, (.int .i64 s : Value) = .int .i64 s, (.row 900 : SV) = .row 900, n = n, ∀ j, j < n → Bv (l j) = Bv (l j)]) := by kernel_rfl
theorem rw_w6_ok (s : Int) (n : Nat) (l : Nat → Bd) (i : Int) (o : Bool) (q0 : (decide (i < ((n : Nat) : Int))) = true) (q1 : (decide ((l i.toNat).x0 < -1048576)) = false) (q2 : (decide ((l i.toNat).x0 > 1048576)) = false) (q3 : (decide ((l i.toNat).v0 < -65536)) = false) (q4 : (decide ((l i.toNat).v0 > 65536)) = false) (q5 : (decide ((l i.toNat).x1 < -1048576)) = false) (q6 : (decide ((l i.toNat).x1 > 1048576)) = true) (x0 : i = ↑i.toNat) (x1 : i.toNat < n) (x2 : i.toNat < n) (x3 : i = ↑i.toNat) (x4 : i.toNat < n) (x5 : i.toNat < n) (x6 : i = ↑i.toNat) (x7 : i.toNat < n) (x8 : i.toNat < n) (x9 : i = ↑i.toNat) (x10 : i.toNat < n) (x11 : i.toNat < n) {good : Out → St → Prop} (hg : ∀ S1, Keeps S1 (rw_st s n l i false) → good .ret S1) : StepTo P S0 1 66 rw_b (rw_st s n l i o) good :=
  step_run (rw_w6 s n l i o) (ps_cons q0 (ps_cons x0 (ps_cons x1 (ps_cons x2 (ps_cons x3 (ps_cons x4 (ps_cons x5 (ps_cons q1 (ps_cons q2 (ps_cons q3 (ps_cons q4 (ps_cons x6 (ps_cons x7 (ps_cons x8 (ps_cons x9 (ps_cons x10 (ps_cons x11 (ps_cons q5 (ps_cons q6 (ps_cons rfl (ps_cons rfl (ps_cons rfl (ps_cons rfl (ps_cons rfl (ps_cons rfl (ps_cons rfl (ps_cons rfl (ps_cons (fun _ _ => rfl) ps_nil)))))))))))))))))))))))))))) rfl hg
theorem rw_w7 (s : Int) (n : Nat) (l : Nat → Bd) (i : Int) (o : Bool) (k_ : Nat) : stepF P S0 1 66 rw_b (rw_st s n l i o) (.b true :: (.lit :: (.lit :: (.n i.toNat :: (.lit :: (.n i.toNat :: (.lit :: (.lit :: (.lit :: (.b false :: (.b false :: (.b false :: (.b false :: (.lit :: (.n i.toNat :: (.lit :: (.n i.toNat :: (.lit :: (.lit :: (.lit :: (.b false :: (.b false :: (.b true :: []))))))))))))))))))))))) 1000 (fun _ => some (rw_st s n l i false)) k_ =
  some (.ret, k_, [(decide (i < ((n : Nat) : Int))) = true, i = ↑i.toNat, i.toNat < n, i.toNat < n, i = ↑i.toNat, i.toNat < n, i.toNat < n, (decide ((l i.toNat).x0 < -1048576)) = false, (decide ((l i.toNat).x0 > 1048576)) = false, (decide ((l i.toNat).v0 < -65536)) = false, (decide ((l i.toNat).v0 > 65536)) = false, i = ↑i.toNat, i.toNat < n, i.toNat < n, i = ↑i.toNat, i.toNat < n, i.toNat < n, (decide ((l i.toNat).x1 < -1048576)) = false, (decide ((l i.toNat).x1 > 1048576)) = false, (decide ((l i.toNat).v1 < -65536)) = true, (.int .i64 i : Value) = .int .i64 i, (.bool false : Value) = .bool false, (.int .i64 1048576 : Value) = .int .i64 1048576, (.int .i64 65536 : Value) = .int .i64 65536, (.ptr 3 0 : SV) = .ptr 3 0, (.int .i64 s : Value) = .int .i64 s, (.row 900 : SV) = .row 900, n = n, ∀ j, j < n → Bv (l j) = Bv (l j)]) := by kernel_rfl
theorem rw_w7_ok (s : Int) (n : Nat) (l : Nat → Bd) (i : Int) (o : Bool) (q0 : (decide (i < ((n : Nat) : Int))) = true) (q1 : (decide ((l i.toNat).x0 < -1048576)) = false) (q2 : (decide ((l i.toNat).x0 > 1048576)) = false) (q3 : (decide ((l i.toNat).v0 < -65536)) = false) (q4 : (decide ((l i.toNat).v0 > 65536)) = false) (q5 : (decide ((l i.toNat).x1 < -1048576)) = false) (q6 : (decide ((l i.toNat).x1 > 1048576)) = false) (q7 : (decide ((l i.toNat).v1 < -65536)) = true) (x0 : i = ↑i.toNat) (x1 : i.toNat < n) (x2 : i.toNat < n) (x3 : i = ↑i.toNat) (x4 : i.toNat < n) (x5 : i.toNat < n) (x6 : i = ↑i.toNat) (x7 : i.toNat < n) (x8 : i.toNat < n) (x9 : i = ↑i.toNat) (x10 : i.toNat < n) (x11 : i.toNat < n) {good : Out → St → Prop} (hg : ∀ S1, Keeps S1 (rw_st s n l i false) → good .ret S1) : StepTo P S0 1 66 rw_b (rw_st s n l i o) good :=
  step_run (rw_w7 s n l i o) (ps_cons q0 (ps_cons x0 (ps_cons x1 (ps_cons x2 (ps_cons x3 (ps_cons x4 (ps_cons x5 (ps_cons q1 (ps_cons q2 (ps_cons q3 (ps_cons q4 (ps_cons x6 (ps_cons x7 (ps_cons x8 (ps_cons x9 (ps_cons x10 (ps_cons x11 (ps_cons q5 (ps_cons q6 (ps_cons q7 (ps_cons rfl (ps_cons rfl (ps_cons rfl (ps_cons rfl (ps_cons rfl (ps_cons rfl (ps_cons rfl (ps_cons rfl (ps_cons (fun _ _ => rfl) ps_nil))))))))))))))))))))))))))))) rfl hg
theorem rw_w8 (s : Int) (n : Nat) (l : Nat → Bd) (i : Int) (o : Bool) (k_ : Nat) : stepF P S0 1 66 rw_b (rw_st s n l i o) (.b true :: (.lit :: (.lit :: (.n i.toNat :: (.lit :: (.n i.toNat :: (.lit :: (.lit :: (.lit :: (.b false :: (.b false :: (.b false :: (.b false :: (.lit :: (.n i.toNat :: (.lit :: (.n i.toNat :: (.lit :: (.lit :: (.lit :: (.b false :: (.b false :: (.b false :: (.b true :: [])))))))))))))))))))))))) 1000 (fun _ => some (rw_st s n l i false)) k_ =
  some (.ret, k_, [(decide (i < ((n : Nat) : Int))) = true, i = ↑i.toNat, i.toNat < n, i.toNat < n, i = ↑i.toNat, i.toNat < n, i.toNat < n, (decide ((l i.toNat).x0 < -1048576)) = false, (decide ((l i.toNat).x0 > 1048576)) = false, (decide ((l i.toNat).v0 < -65536)) = false, (decide ((l i.toNat).v0 > 65536)) = false, i = ↑i.toNat, i.toNat < n, i.toNat < n, i = ↑i.toNat, i.toNat < n, i.toNat < n, (decide ((l i.toNat).x1 < -1048576)) = false, (decide ((l i.toNat).x1 > 1048576)) = false, (decide ((l i.toNat).v1 < -65536)) = false, (decide ((l i.toNat).v1 > 65536)) = true, (.int .i64 i : Value) = .int .i64 i, (.bool false : Value) = .bool false, (.int .i64 1048576 : Value) = .int .i64 1048576, (.int .i64 65536 : Value) = .int .i64 65536, (.ptr 3 0 : SV) = .ptr 3 0, (.int .i64 s : Value) = .int .i64 s, (.row 900 : SV) = .row 900, n = n, ∀ j, j < n → Bv (l j) = Bv (l j)]) := by kernel_rfl
theorem rw_w8_ok (s : Int) (n : Nat) (l : Nat → Bd) (i : Int) (o : Bool) (q0 : (decide (i < ((n : Nat) : Int))) = true) (q1 : (decide ((l i.toNat).x0 < -1048576)) = false) (q2 : (decide ((l i.toNat).x0 > 1048576)) = false) (q3 : (decide ((l i.toNat).v0 < -65536)) = false) (q4 : (decide ((l i.toNat).v0 > 65536)) = false) (q5 : (decide ((l i.toNat).x1 < -1048576)) = false) (q6 : (decide ((l i.toNat).x1 > 1048576)) = false) (q7 : (decide ((l i.toNat).v1 < -65536)) = false) (q8 : (decide ((l i.toNat).v1 > 65536)) = true) (x0 : i = ↑i.toNat) (x1 : i.toNat < n) (x2 : i.toNat < n) (x3 : i = ↑i.toNat) (x4 : i.toNat < n) (x5 : i.toNat < n) (x6 : i = ↑i.toNat) (x7 : i.toNat < n) (x8 : i.toNat < n) (x9 : i = ↑i.toNat) (x10 : i.toNat < n) (x11 : i.toNat < n) {good : Out → St → Prop} (hg : ∀ S1, Keeps S1 (rw_st s n l i false) → good .ret S1) : StepTo P S0 1 66 rw_b (rw_st s n l i o) good :=
  step_run (rw_w8 s n l i o) (ps_cons q0 (ps_cons x0 (ps_cons x1 (ps_cons x2 (ps_cons x3 (ps_cons x4 (ps_cons x5 (ps_cons q1 (ps_cons q2 (ps_cons q3 (ps_cons q4 (ps_cons x6 (ps_cons x7 (ps_cons x8 (ps_cons x9 (ps_cons x10 (ps_cons x11 (ps_cons q5 (ps_cons q6 (ps_cons q7 (ps_cons q8 (ps_cons rfl (ps_cons rfl (ps_cons rfl (ps_cons rfl (ps_cons rfl (ps_cons rfl (ps_cons rfl (ps_cons rfl (ps_cons (fun _ _ => rfl) ps_nil)))))))))))))))))))))))))))))) rfl hg
theorem rw_w9 (s : Int) (n : Nat) (l : Nat → Bd) (i : Int) (o : Bool) (k_ : Nat) : stepF P S0 1 66 rw_b (rw_st s n l i o) (.b true :: (.lit :: (.lit :: (.n i.toNat :: (.lit :: (.n i.toNat :: (.lit :: (.lit :: (.lit :: (.b false :: (.b false :: (.b false :: (.b false :: (.lit :: (.n i.toNat :: (.lit :: (.n i.toNat :: (.lit :: (.lit :: (.lit :: (.b false :: (.b false :: (.b false :: (.b false :: (.lit :: (.n i.toNat :: (.lit :: (.n i.toNat :: (.lit :: (.lit :: (.lit :: (.b true :: [])))))))))))))))))))))))))))))))) 1000 (fun _ => some (rw_st s n l i false)) k_ =
  some (.ret, k_, [(decide (i < ((n : Nat) : Int))) = true, i = ↑i.toNat, i.toNat < n, i.toNat < n, i = ↑i.toNat, i.toNat < n, i.toNat < n, (decide ((l i.toNat).x0 < -1048576)) = false, (decide ((l i.toNat).x0 > 1048576)) = false, (decide ((l i.toNat).v0 < -65536)) = false, (decide ((l i.toNat).v0 > 65536)) = false, i = ↑i.toNat, i.toNat < n, i.toNat < n, i = ↑i.toNat, i.toNat < n, i.toNat < n, (decide ((l i.toNat).x1 < -1048576)) = false, (decide ((l i.toNat).x1 > 1048576)) = false, (decide ((l i.toNat).v1 < -65536)) = false, (decide ((l i.toNat).v1 > 65536)) = false, i = ↑i.toNat, i.toNat < n, i.toNat < n, i = ↑i.toNat, i.toNat < n, i.toNat < n, (decide ((l i.toNat).x2 < -1048576)) = true, (.int .i64 i : Value) = .int .i64 i, (.bool false : Value) = .bool false, (.int .i64 1048576 : Value) = .int .i64 1048576, (.int .i64 65536 : Value) = .int .i64 65536, (.ptr 3 0 : SV) = .ptr 3 0, (.int .i64 s : Value) = .int .i64 s, (.row 900 : SV) = .row 900, n = n, ∀ j, j < n → Bv (l j) = Bv (l j)]) := by kernel_rfl
theorem rw_w9_ok (s : Int) (n : Nat) (l : Nat → Bd) (i : Int) (o : Bool) (q0 : (decide (i < ((n : Nat) : Int))) = true) (q1 : (decide ((l i.toNat).x0 < -1048576)) = false) (q2 : (decide ((l i.toNat).x0 > 1048576)) = false) (q3 : (decide ((l i.toNat).v0 < -65536)) = false) (q4 : (decide ((l i.toNat).v0 > 65536)) = false) (q5 : (decide ((l i.toNat).x1 < -1048576)) = false) (q6 : (decide ((l i.toNat).x1 > 1048576)) = false) (q7 : (decide ((l i.toNat).v1 < -65536)) = false) (q8 : (decide ((l i.toNat).v1 > 65536)) = false) (q9 : (decide ((l i.toNat).x2 < -1048576)) = true) (x0 : i = ↑i.toNat) (x1 : i.toNat < n) (x2 : i.toNat < n) (x3 : i = ↑i.toNat) (x4 : i.toNat < n) (x5 : i.toNat < n) (x6 : i = ↑i.toNat) (x7 : i.toNat < n) (x8 : i.toNat < n) (x9 : i = ↑i.toNat) (x10 : i.toNat < n) (x11 : i.toNat < n) (x12 : i = ↑i.toNat) (x13 : i.toNat < n) (x14 : i.toNat < n) (x15 : i = ↑i.toNat) (x16 : i.toNat < n) (x17 : i.toNat < n) {good : Out → St → Prop} (hg : ∀ S1, Keeps S1 (rw_st s n l i false) → good .ret S1) : StepTo P S0 1 66 rw_b (rw_st s n l i o) good :=
  step_run (rw_w9 s n l i o) (ps_cons q0 (ps_cons x0 (ps_cons x1 (ps_cons x2 (ps_cons x3 (ps_cons x4 (ps_cons x5 (ps_cons q1 (ps_cons q2 (ps_cons q3 (ps_cons q4 (ps_cons x6 (ps_cons x7 (ps_cons x8 (ps_cons x9 (ps_cons x10 (ps_cons x11 (ps_cons q5 (ps_cons q6 (ps_cons q7 (ps_cons q8 (ps_cons x12 (ps_cons x13 (ps_cons x14 (ps_cons x15 (ps_cons x16 (ps_cons x17 (ps_cons q9 (ps_cons rfl (ps_cons rfl (ps_cons rfl (ps_cons rfl (ps_cons rfl (ps_cons rfl (ps_cons rfl (ps_cons rfl (ps_cons (fun _ _ => rfl) ps_nil))))))))))))))))))))))))))))))))))))) rfl hg
theorem rw_w10 (s : Int) (n : Nat) (l : Nat → Bd) (i : Int) (o : Bool) (k_ : Nat) : stepF P S0 1 66 rw_b (rw_st s n l i o) (.b true :: (.lit :: (.lit :: (.n i.toNat :: (.lit :: (.n i.toNat :: (.lit :: (.lit :: (.lit :: (.b false :: (.b false :: (.b false :: (.b false :: (.lit :: (.n i.toNat :: (.lit :: (.n i.toNat :: (.lit :: (.lit :: (.lit :: (.b false :: (.b false :: (.b false :: (.b false :: (.lit :: (.n i.toNat :: (.lit :: (.n i.toNat :: (.lit :: (.lit :: (.lit :: (.b false :: (.b true :: []))))))))))))))))))))))))))))))))) 1000 (fun _ => some (rw_st s n l i false)) k_ =
  some (.ret, k_, [(decide (i < ((n : Nat) : Int))) = true, i = ↑i.toNat, i.toNat < n, i.toNat < n, i = ↑i.toNat, i.toNat < n, i.toNat < n, (decide ((l i.toNat).x0 < -1048576)) = false, (decide ((l i.toNat).x0 > 1048576)) = false, (decide ((l i.toNat).v0 < -65536)) = false, (decide ((l i.toNat).v0 > 65536)) = false, i = ↑i.toNat, i.toNat < n, i.toNat < n, i = ↑i.toNat, i.toNat < n, i.toNat < n, (decide ((l i.toNat).x1 < -1048576)) = false, (decide ((l i.toNat).x1 > 1048576)) = false, (decide ((l i.toNat).v1 < -65536)) = false, (decide ((l i.toNat).v1 > 65536)) = false, i = ↑i.toNat, i.toNat < n, i.toNat < n, i = ↑i.toNat, i.toNat < n, i.toNat < n, (decide ((l i.toNat).x2 < -1048576)) = false, (decide ((l i.toNat).x2 > 1048576)) = true, (.int .i64 i : Value) = .int .i64 i, (.bool false : Value) = .bool false, (.int .i64 1048576 : Value) = .int .i64 1048576, (.int .i64 65536 : Value) = .int .i64 65536, (.ptr 3 0 : SV) = .ptr 3 0, (.int .i64 s : Value) = .int .i64 s, (.row 900 : SV) = .row 900, n = n, ∀ j, j < n → Bv (l j) = Bv (l j)]) := by kernel_rfl
theorem rw_w10_ok (s : Int) (n : Nat) (l : Nat → Bd) (i : Int) (o : Bool) (q0 : (decide (i < ((n : Nat) : Int))) = true) (q1 : (decide ((l i.toNat).x0 < -1048576)) = false) (q2 : (decide ((l i.toNat).x0 > 1048576)) = false) (q3 : (decide ((l i.toNat).v0 < -65536)) = false) (q4 : (decide ((l i.toNat).v0 > 65536)) = false) (q5 : (decide ((l i.toNat).x1 < -1048576)) = false) (q6 : (decide ((l i.toNat).x1 > 1048576)) = false) (q7 : (decide ((l i.toNat).v1 < -65536)) = false) (q8 : (decide ((l i.toNat).v1 > 65536)) = false) (q9 : (decide ((l i.toNat).x2 < -1048576)) = false) (q10 : (decide ((l i.toNat).x2 > 1048576)) = true) (x0 : i = ↑i.toNat) (x1 : i.toNat < n) (x2 : i.toNat < n) (x3 : i = ↑i.toNat) (x4 : i.toNat < n) (x5 : i.toNat < n) (x6 : i = ↑i.toNat) (x7 : i.toNat < n) (x8 : i.toNat < n) (x9 : i = ↑i.toNat) (x10 : i.toNat < n) (x11 : i.toNat < n) (x12 : i = ↑i.toNat) (x13 : i.toNat < n) (x14 : i.toNat < n) (x15 : i = ↑i.toNat) (x16 : i.toNat < n) (x17 : i.toNat < n) {good : Out → St → Prop} (hg : ∀ S1, Keeps S1 (rw_st s n l i false) → good .ret S1) : StepTo P S0 1 66 rw_b (rw_st s n l i o) good :=
  step_run (rw_w10 s n l i o) (ps_cons q0 (ps_cons x0 (ps_cons x1 (ps_cons x2 (ps_cons x3 (ps_cons x4 (ps_cons x5 (ps_cons q1 (ps_cons q2 (ps_cons q3 (ps_cons q4 (ps_cons x6 (ps_cons x7 (ps_cons x8 (ps_cons x9 (ps_cons x10 (ps_cons x11 (ps_cons q5 (ps_cons q6 (ps_cons q7 (ps_cons q8 (ps_cons x12 (ps_cons x13 (ps_cons x14 (ps_cons x15 (ps_cons x16 (ps_cons x17 (ps_cons q9 (ps_cons q10 (ps_cons rfl (ps_cons rfl (ps_cons rfl (ps_cons rfl (ps_cons rfl (ps_cons rfl (ps_cons rfl (ps_cons rfl (ps_cons (fun _ _ => rfl) ps_nil)))))))))))))))))))))))))))))))))))))) rfl hg
theorem rw_w11 (s : Int) (n : Nat) (l : Nat → Bd) (i : Int) (o : Bool) (k_ : Nat) : stepF P S0 1 66 rw_b (rw_st s n l i o) (.b true :: (.lit :: (.lit :: (.n i.toNat :: (.lit :: (.n i.toNat :: (.lit :: (.lit :: (.lit :: (.b false :: (.b false :: (.b false :: (.b false :: (.lit :: (.n i.toNat :: (.lit :: (.n i.toNat :: (.lit :: (.lit :: (.lit :: (.b false :: (.b false :: (.b false :: (.b false :: (.lit :: (.n i.toNat :: (.lit :: (.n i.toNat :: (.lit :: (.lit :: (.lit :: (.b false :: (.b false :: (.b true :: [])))))))))))))))))))))))))))))))))) 1000 (fun _ => some (rw_st s n l i false)) k_ =
  some (.ret, k_, [(decide (i < ((n : Nat) : Int))) = true, i = ↑i.toNat, i.toNat < n, i.toNat < n, i = ↑i.toNat, i.toNat < n, i.toNat < n, (decide ((l i.toNat).x0 < -1048576)) = false, (decide ((l i.toNat).x0 > 1048576)) = false, (decide ((l i.toNat).v0 < -65536)) = false, (decide ((l i.toNat).v0 > 65536)) = false, i = ↑i.toNat, i.toNat < n, i.toNat < n, i = ↑i.toNat, i.toNat < n, i.toNat < n, (decide ((l i.toNat).x1 < -1048576)) = false, (decide ((l i.toNat).x1 > 1048576)) = false, (decide ((l i.toNat).v1 < -65536)) = false, (decide ((l i.toNat).v1 > 65536)) = false, i = ↑i.toNat, i.toNat < n, i.toNat < n, i = ↑i.toNat, i.toNat < n, i.toNat < n, (decide ((l i.toNat).x2 < -1048576)) = false, (decide ((l i.toNat).x2 > 1048576)) = false, (decide ((l i.toNat).v2 < -65536)) = true, (.int .i64 i : Value) = .int .i64 i, (.bool false : Value) = .bool false, (.int .i64 1048576 : Value) = .int .i64 1048576, (.int .i64 65536 : Value) = .int .i64 65536, (.ptr 3 0 : SV) = .ptr 3 0, (.int .i64 s : Value) = .int .i64 s, (.row 900 : SV) = .row 900, n = n, ∀ j, j < n → Bv (l j) = Bv (l j)]) := by kernel_rfl
theorem rw_w11_ok (s : Int) (n : Nat) (l : Nat → Bd) (i : Int) (o : Bool) (q0 : (decide (i < ((n : Nat) : Int))) = true) (q1 : (decide ((l i.toNat).x0 < -1048576)) = false) (q2 : (decide ((l i.toNat).x0 > 1048576)) = false) (q3 : (decide ((l i.toNat).v0 < -65536)) = false) (q4 : (decide ((l i.toNat).v0 > 65536)) = false) (q5 : (decide ((l i.toNat).x1 < -1048576)) = false) (q6 : (decide ((l i.toNat).x1 > 1048576)) = false) (q7 : (decide ((l i.toNat).v1 < -65536)) = false) (q8 : (decide ((l i.toNat).v1 > 65536)) = false) (q9 : (decide ((l i.toNat).x2 < -1048576)) = false) (q10 : (decide ((l i.toNat).x2 > 1048576)) = false) (q11 : (decide ((l i.toNat).v2 < -65536)) = true) (x0 : i = ↑i.toNat) (x1 : i.toNat < n) (x2 : i.toNat < n) (x3 : i = ↑i.toNat) (x4 : i.toNat < n) (x5 : i.toNat < n) (x6 : i = ↑i.toNat) (x7 : i.toNat < n) (x8 : i.toNat < n) (x9 : i = ↑i.toNat) (x10 : i.toNat < n) (x11 : i.toNat < n) (x12 : i = ↑i.toNat) (x13 : i.toNat < n) (x14 : i.toNat < n) (x15 : i = ↑i.toNat) (x16 : i.toNat < n) (x17 : i.toNat < n) {good : Out → St → Prop} (hg : ∀ S1, Keeps S1 (rw_st s n l i false) → good .ret S1) : StepTo P S0 1 66 rw_b (rw_st s n l i o) good :=
  step_run (rw_w11 s n l i o) (ps_cons q0 (ps_cons x0 (ps_cons x1 (ps_cons x2 (ps_cons x3 (ps_cons x4 (ps_cons x5 (ps_cons q1 (ps_cons q2 (ps_cons q3 (ps_cons q4 (ps_cons x6 (ps_cons x7 (ps_cons x8 (ps_cons x9 (ps_cons x10 (ps_cons x11 (ps_cons q5 (ps_cons q6 (ps_cons q7 (ps_cons q8 (ps_cons x12 (ps_cons x13 (ps_cons x14 (ps_cons x15 (ps_cons x16 (ps_cons x17 (ps_cons q9 (ps_cons q10 (ps_cons q11 (ps_cons rfl (ps_cons rfl (ps_cons rfl (ps_cons rfl (ps_cons rfl (ps_cons rfl (ps_cons rfl (ps_cons rfl (ps_cons (fun _ _ => rfl) ps_nil))))))))))))))))))))))))))))))))))))))) rfl hg
theorem rw_w12 (s : Int) (n : Nat) (l : Nat → Bd) (i : Int) (o : Bool) (k_ : Nat) : stepF P S0 1 66 rw_b (rw_st s n l i o) (.b true :: (.lit :: (.lit :: (.n i.toNat :: (.lit :: (.n i.toNat :: (.lit :: (.lit :: (.lit :: (.b false :: (.b false :: (.b false :: (.b false :: (.lit :: (.n i.toNat :: (.lit :: (.n i.toNat :: (.lit :: (.lit :: (.lit :: (.b false :: (.b false :: (.b false :: (.b false :: (.lit :: (.n i.toNat :: (.lit :: (.n i.toNat :: (.lit :: (.lit :: (.lit :: (.b false :: (.b false :: (.b false :: (.b true :: []))))))))))))))))))))))))))))))))))) 1000 (fun _ => some (rw_st s n l i false)) k_ =
  some (.ret, k_, [(decide (i < ((n : Nat) : Int))) = true, i = ↑i.toNat, i.toNat < n, i.toNat < n, i = ↑i.toNat, i.toNat < n, i.toNat < n, (decide ((l i.toNat).x0 < -1048576)) = false, (decide ((l i.toNat).x0 > 1048576)) = false, (decide ((l i.toNat).v0 < -65536)) = false, (decide ((l i.toNat).v0 > 65536)) = false, i = ↑i.toNat, i.toNat < n, i.toNat < n, i = ↑i.toNat, i.toNat < n, i.toNat < n, (decide ((l i.toNat).x1 < -1048576)) = false, (decide ((l i.toNat).x1 > 1048576)) = false, (decide ((l i.toNat).v1 < -65536)) = false, (decide ((l i.toNat).v1 > 65536)) = false, i = ↑i.toNat, i.toNat < n, i.toNat < n, i = ↑i.toNat, i.toNat < n, i.toNat < n, (decide ((l i.toNat).x2 < -1048576)) = false, (decide ((l i.toNat).x2 > 1048576)) = false, (decide ((l i.toNat).v2 < -65536)) = false, (decide ((l i.toNat).v2 > 65536)) = true, (.int .i64 i : Value) = .int .i64 i, (.bool false : Value) = .bool false, (.int .i64 1048576 : Value) = .int .i64 1048576, (.int .i64 65536 : Value) = .int .i64 65536, (.ptr 3 0 : SV) = .ptr 3 0, (.int .i64 s : Value) = .int .i64 s, (.row 900 : SV) = .row 900, n = n, ∀ j, j < n → Bv (l j) = Bv (l j)]) := by kernel_rfl
theorem rw_w12_ok (s : Int) (n : Nat) (l : Nat → Bd) (i : Int) (o : Bool) (q0 : (decide (i < ((n : Nat) : Int))) = true) (q1 : (decide ((l i.toNat).x0 < -1048576)) = false) (q2 : (decide ((l i.toNat).x0 > 1048576)) = false) (q3 : (decide ((l i.toNat).v0 < -65536)) = false) (q4 : (decide ((l i.toNat).v0 > 65536)) = false) (q5 : (decide ((l i.toNat).x1 < -1048576)) = false) (q6 : (decide ((l i.toNat).x1 > 1048576)) = false) (q7 : (decide ((l i.toNat).v1 < -65536)) = false) (q8 : (decide ((l i.toNat).v1 > 65536)) = false) (q9 : (decide ((l i.toNat).x2 < -1048576)) = false) (q10 : (decide ((l i.toNat).x2 > 1048576)) = false) (q11 : (decide ((l i.toNat).v2 < -65536)) = false) (q12 : (decide ((l i.toNat).v2 > 65536)) = true) (x0 : i = ↑i.toNat) (x1 : i.toNat < n) (x2 : i.toNat < n) (x3 : i = ↑i.toNat) (x4 : i.toNat < n) (x5 : i.toNat < n) (x6 : i = ↑i.toNat) (x7 : i.toNat < n) (x8 : i.toNat < n) (x9 : i = ↑i.toNat) (x10 : i.toNat < n) (x11 : i.toNat < n) (x12 : i = ↑i.toNat) (x13 : i.toNat < n) (x14 : i.toNat < n) (x15 : i = ↑i.toNat) (x16 : i.toNat < n) (x17 : i.toNat < n) {good : Out → St → Prop} (hg : ∀ S1, Keeps S1 (rw_st s n l i false) → good .ret S1) : StepTo P S0 1 66 rw_b (rw_st s n l i o) good :=
  step_run (rw_w12 s n l i o) (ps_cons q0 (ps_cons x0 (ps_cons x1 (ps_cons x2 (ps_cons x3 (ps_cons x4 (ps_cons x5 (ps_cons q1 (ps_cons q2 (ps_cons q3 (ps_cons q4 (ps_cons x6 (ps_cons x7 (ps_cons x8 (ps_cons x9 (ps_cons x10 (ps_cons x11 (ps_cons q5 (ps_cons q6 (ps_cons q7 (ps_cons q8 (ps_cons x12 (ps_cons x13 (ps_cons x14 (ps_cons x15 (ps_cons x16 (ps_cons x17 (ps_cons q9 (ps_cons q10 (ps_cons q11 (ps_cons q12 (ps_cons rfl (ps_cons rfl (ps_cons rfl (ps_cons rfl (ps_cons rfl (ps_cons rfl (ps_cons rfl (ps_cons rfl (ps_cons (fun _ _ => rfl) ps_nil)))))))))))))))))))))))))))))))))))))))) rfl hg
theorem rw_w13 (s : Int) (n : Nat) (l : Nat → Bd) (i : Int) (o : Bool) (k_ : Nat) : stepF P S0 1 66 rw_b (rw_st s n l i o) (.b true :: (.lit :: (.lit :: (.n i.toNat :: (.lit :: (.n i.toNat :: (.lit :: (.lit :: (.lit :: (.b false :: (.b false :: (.b false :: (.b false :: (.lit :: (.n i.toNat :: (.lit :: (.n i.toNat :: (.lit :: (.lit :: (.lit :: (.b false :: (.b false :: (.b false :: (.b false :: (.lit :: (.n i.toNat :: (.lit :: (.n i.toNat :: (.lit :: (.lit :: (.lit :: (.b false :: (.b false :: (.b false :: (.b false :: []))))))))))))))))))))))))))))))))))) 1000 (fun _ => some (rw_st s n l (IntKind.i64.wrap (i + 1)) o)) k_ =
  some (.normal, k_, [(decide (i < ((n : Nat) : Int))) = true, i = ↑i.toNat, i.toNat < n, i.toNat < n, i = ↑i.toNat, i.toNat < n, i.toNat < n, (decide ((l i.toNat).x0 < -1048576)) = false, (decide ((l i.toNat).x0 > 1048576)) = false, (decide ((l i.toNat).v0 < -65536)) = false, (decide ((l i.toNat).v0 > 65536)) = false, i = ↑i.toNat, i.toNat < n, i.toNat < n, i = ↑i.toNat, i.toNat < n, i.toNat < n, (decide ((l i.toNat).x1 < -1048576)) = false, (decide ((l i.toNat).x1 > 1048576)) = false, (decide ((l i.toNat).v1 < -65536)) = false, (decide ((l i.toNat).v1 > 65536)) = false, i = ↑i.toNat, i.toNat < n, i.toNat < n, i = ↑i.toNat, i.toNat < n, i.toNat < n, (decide ((l i.toNat).x2 < -1048576)) = false, (decide ((l i.toNat).x2 > 1048576)) = false, (decide ((l i.toNat).v2 < -65536)) = false, (decide ((l i.toNat).v2 > 65536)) = false, (.int .i64 (IntKind.i64.wrap (i + 1)) : Value) = .int .i64 (IntKind.i64.wrap (i + 1)), (.bool o : Value) = .bool o, (.int .i64 1048576 : Value) = .int .i64 1048576, (.int .i64 65536 : Value) = .int .i64 65536, (.ptr 3 0 : SV) = .ptr 3 0, (.int .i64 s : Value) = .int .i64 s, (.row 900 : SV) = .row 900, n = n, ∀ j, j < n → Bv (l j) = Bv (l j)]) := by kernel_rfl
theorem rw_w13_ok (s : Int) (n : Nat) (l : Nat → Bd) (i : Int) (o : Bool) (q0 : (decide (i < ((n : Nat) : Int))) = true) (q1 : (decide ((l i.toNat).x0 < -1048576)) = false) (q2 : (decide ((l i.toNat).x0 > 1048576)) = false) (q3 : (decide ((l i.toNat).v0 < -65536)) = false) (q4 : (decide ((l i.toNat).v0 > 65536)) = false) (q5 : (decide ((l i.toNat).x1 < -1048576)) = false) (q6 : (decide ((l i.toNat).x1 > 1048576)) = false) (q7 : (decide ((l i.toNat).v1 < -65536)) = false) (q8 : (decide ((l i.toNat).v1 > 65536)) = false) (q9 : (decide ((l i.toNat).x2 < -1048576)) = false) (q10 : (decide ((l i.toNat).x2 > 1048576)) = false) (q11 : (decide ((l i.toNat).v2 < -65536)) = false) (q12 : (decide ((l i.toNat).v2 > 65536)) = false) (x0 : i = ↑i.toNat) (x1 : i.toNat < n) (x2 : i.toNat < n) (x3 : i = ↑i.toNat) (x4 : i.toNat < n) (x5 : i.toNat < n) (x6 : i = ↑i.toNat) (x7 : i.toNat < n) (x8 : i.toNat < n) (x9 : i = ↑i.toNat) (x10 : i.toNat < n) (x11 : i.toNat < n) (x12 : i = ↑i.toNat) (x13 : i.toNat < n) (x14 : i.toNat < n) (x15 : i = ↑i.toNat) (x16 : i.toNat < n) (x17 : i.toNat < n) {good : Out → St → Prop} (hg : ∀ S1, Keeps S1 (rw_st s n l (IntKind.i64.wrap (i + 1)) o) → good .normal S1) : StepTo P S0 1 66 rw_b (rw_st s n l i o) good :=
  step_run (rw_w13 s n l i o) (ps_cons q0 (ps_cons x0 (ps_cons x1 (ps_cons x2 (ps_cons x3 (ps_cons x4 (ps_cons x5 (ps_cons q1 (ps_cons q2 (ps_cons q3 (ps_cons q4 (ps_cons x6 (ps_cons x7 (ps_cons x8 (ps_cons x9 (ps_cons x10 (ps_cons x11 (ps_cons q5 (ps_cons q6 (ps_cons q7 (ps_cons q8 (ps_cons x12 (ps_cons x13 (ps_cons x14 (ps_cons x15 (ps_cons x16 (ps_cons x17 (ps_cons q9 (ps_cons q10 (ps_cons q11 (ps_cons q12 (ps_cons rfl (ps_cons rfl (ps_cons rfl (ps_cons rfl (ps_cons rfl (ps_cons rfl (ps_cons rfl (ps_cons rfl (ps_cons (fun _ _ => rfl) ps_nil)))))))))))))))))))))))))))))))))))))))) rfl hg
noncomputable def rw_g (s : Int) (n : Nat) (l : Nat → Bd) (k : Nat) : St := rw_st s n l (k : Int) false
theorem rw_go {s : Int} {n : Nat} {l : Nat → Bd} {k : Nat} (hn : n ≤ 1000000) (h : k < n) (q1 : (decide ((l k).x0 < -1048576)) = false) (q2 : (decide ((l k).x0 > 1048576)) = false) (q3 : (decide ((l k).v0 < -65536)) = false) (q4 : (decide ((l k).v0 > 65536)) = false) (q5 : (decide ((l k).x1 < -1048576)) = false) (q6 : (decide ((l k).x1 > 1048576)) = false) (q7 : (decide ((l k).v1 < -65536)) = false) (q8 : (decide ((l k).v1 > 65536)) = false) (q9 : (decide ((l k).x2 < -1048576)) = false) (q10 : (decide ((l k).x2 > 1048576)) = false) (q11 : (decide ((l k).v2 < -65536)) = false) (q12 : (decide ((l k).v2 > 65536)) = false) {good : Out → St → Prop} (hg : ∀ S1, Keeps S1 (rw_g s n l (k + 1)) → good .normal S1) : StepTo P S0 1 66 rw_b (rw_g s n l k) good := by
  have x0 : (k : Int) = (((k : Int).toNat : Nat) : Int) := by omega
  have x1 : ((k : Int)).toNat < n := by omega
  have q0 : decide ((k : Int) < ((n : Nat) : Int)) = true := decide_eq_true (by omega)
  refine rw_w13_ok s n l _ _ q0 q1 q2 q3 q4 q5 q6 q7 q8 q9 q10 q11 q12 x0 x1 x1 x0 x1 x1 x0 x1 x1 x0 x1 x1 x0 x1 x1 x0 x1 x1 fun S1 hk1 => hg S1 ?_
  have e1 : IntKind.i64.wrap ((k : Int) + 1) = ((k + 1 : Nat) : Int) := by rw [wrap_i64_in (by omega) (by omega)]; rfl
  rw [e1] at hk1
  exact hk1
theorem rw_no {s : Int} {n : Nat} {l : Nat → Bd} {k : Nat} (hb : bB (l k) = false) (h : k < n) {good : Out → St → Prop} (hg : ∀ S1, Keeps S1 (rw_g s n l k) → good .ret S1) : StepTo P S0 1 66 rw_b (rw_g s n l k) good := by
  have x0 : (k : Int) = (((k : Int).toNat : Nat) : Int) := by omega
  have x1 : ((k : Int)).toNat < n := by omega
  have q0 : decide ((k : Int) < ((n : Nat) : Int)) = true := decide_eq_true (by omega)
  cases q1 : decide ((l k).x0 < -1048576) with
  | true => exact rw_w0_ok s n l _ _ q0 q1 x0 x1 x1 x0 x1 x1 hg
  | false =>
  cases q2 : decide ((l k).x0 > 1048576) with
  | true => exact rw_w2_ok s n l _ _ q0 q1 q2 x0 x1 x1 x0 x1 x1 hg
  | false =>
  cases q3 : decide ((l k).v0 < -65536) with
  | true => exact rw_w3_ok s n l _ _ q0 q1 q2 q3 x0 x1 x1 x0 x1 x1 hg
  | false =>
  cases q4 : decide ((l k).v0 > 65536) with
  | true => exact rw_w4_ok s n l _ _ q0 q1 q2 q3 q4 x0 x1 x1 x0 x1 x1 hg
  | false =>
  cases q5 : decide ((l k).x1 < -1048576) with
  | true => exact rw_w5_ok s n l _ _ q0 q1 q2 q3 q4 q5 x0 x1 x1 x0 x1 x1 x0 x1 x1 x0 x1 x1 hg
  | false =>
  cases q6 : decide ((l k).x1 > 1048576) with
  | true => exact rw_w6_ok s n l _ _ q0 q1 q2 q3 q4 q5 q6 x0 x1 x1 x0 x1 x1 x0 x1 x1 x0 x1 x1 hg
  | false =>
  cases q7 : decide ((l k).v1 < -65536) with
  | true => exact rw_w7_ok s n l _ _ q0 q1 q2 q3 q4 q5 q6 q7 x0 x1 x1 x0 x1 x1 x0 x1 x1 x0 x1 x1 hg
  | false =>
  cases q8 : decide ((l k).v1 > 65536) with
  | true => exact rw_w8_ok s n l _ _ q0 q1 q2 q3 q4 q5 q6 q7 q8 x0 x1 x1 x0 x1 x1 x0 x1 x1 x0 x1 x1 hg
  | false =>
  cases q9 : decide ((l k).x2 < -1048576) with
  | true => exact rw_w9_ok s n l _ _ q0 q1 q2 q3 q4 q5 q6 q7 q8 q9 x0 x1 x1 x0 x1 x1 x0 x1 x1 x0 x1 x1 x0 x1 x1 x0 x1 x1 hg
  | false =>
  cases q10 : decide ((l k).x2 > 1048576) with
  | true => exact rw_w10_ok s n l _ _ q0 q1 q2 q3 q4 q5 q6 q7 q8 q9 q10 x0 x1 x1 x0 x1 x1 x0 x1 x1 x0 x1 x1 x0 x1 x1 x0 x1 x1 hg
  | false =>
  cases q11 : decide ((l k).v2 < -65536) with
  | true => exact rw_w11_ok s n l _ _ q0 q1 q2 q3 q4 q5 q6 q7 q8 q9 q10 q11 x0 x1 x1 x0 x1 x1 x0 x1 x1 x0 x1 x1 x0 x1 x1 x0 x1 x1 hg
  | false =>
  cases q12 : decide ((l k).v2 > 65536) with
  | true => exact rw_w12_ok s n l _ _ q0 q1 q2 q3 q4 q5 q6 q7 q8 q9 q10 q11 q12 x0 x1 x1 x0 x1 x1 x0 x1 x1 x0 x1 x1 x0 x1 x1 x0 x1 x1 hg
  | false =>
  have z1 := of_decide_eq_false q1
  have z2 := of_decide_eq_false q2
  have z3 := of_decide_eq_false q3
  have z4 := of_decide_eq_false q4
  have z5 := of_decide_eq_false q5
  have z6 := of_decide_eq_false q6
  have z7 := of_decide_eq_false q7
  have z8 := of_decide_eq_false q8
  have z9 := of_decide_eq_false q9
  have z10 := of_decide_eq_false q10
  have z11 := of_decide_eq_false q11
  have z12 := of_decide_eq_false q12
  exfalso
  have : bB (l k) = true := by
    unfold bB
    rw [Bool.and_eq_true, vwB_iff, vwB_iff]
    exact ⟨⟨⟨by omega, by omega⟩, ⟨by omega, by omega⟩, by omega, by omega⟩, ⟨by omega, by omega⟩, ⟨by omega, by omega⟩, by omega, by omega⟩
  rw [hb] at this
  cases this
theorem rw_yes {s : Int} {n : Nat} {l : Nat → Bd} {k : Nat} (hn : n ≤ 1000000) (h : k < n) (hb : bB (l k) = true) {good : Out → St → Prop} (hg : ∀ S1, Keeps S1 (rw_g s n l (k + 1)) → good .normal S1) : StepTo P S0 1 66 rw_b (rw_g s n l k) good := by
  unfold bB at hb
  rw [Bool.and_eq_true, vwB_iff, vwB_iff] at hb
  exact rw_go hn h (decide_eq_false (by omega)) (decide_eq_false (by omega)) (decide_eq_false (by omega)) (decide_eq_false (by omega)) (decide_eq_false (by omega)) (decide_eq_false (by omega)) (decide_eq_false (by omega)) (decide_eq_false (by omega)) (decide_eq_false (by omega)) (decide_eq_false (by omega)) (decide_eq_false (by omega)) (decide_eq_false (by omega)) hg
theorem ra_step {s : Int} {n : Nat} {l : Nat → Bd} (hn : n ≤ 1000000) (ha : ∀ j, j < n → bB (l j) = true) (k : Nat) (hk : k ≤ n) : StepTo P S0 1 66 rw_b (rw_g s n l k) fun o S1 => (o = .normal ∧ ∃ g' : Nat, g' ≤ n ∧ n - g' < n - k ∧ Keeps S1 (rw_g s n l g')) ∨ (o = .exit 0 ∧ Keeps S1 (rw_g s n l n)) := by
  by_cases h : k < n
  · exact rw_yes hn h (ha k h) fun S1 hk1 => .inl ⟨rfl, k + 1, h, by omega, hk1⟩
  · have e : k = n := by omega
    subst e
    exact rw_w1_ok s k l _ _ (decide_eq_false (by omega)) fun S1 hk1 => .inr ⟨rfl, hk1⟩
noncomputable def ra_loop (s : Int) (n : Nat) (l : Nat → Bd) (hn : n ≤ 1000000) (ha : ∀ j, j < n → bB (l j) = true) : CodeC P :=
  loopC mo S0 (by rfl) 1 66 rw_b [900, 3, 0, 1, 2] (rw_g s n l) (fun k => k ≤ n) (fun k => n - k) (.exit 0) (rw_g s n l n) (by simp) (fun _ => rfl) rfl (fun _ => by kernel_rfl) (by kernel_rfl) [900] (fun _ => rfl) rfl
    (ra_step hn ha) 0 (Nat.zero_le _)
theorem rb_step {s : Int} {n : Nat} {l : Nat → Bd} (hn : n ≤ 1000000) {m : Nat} (hm : m < n) (hb : bB (l m) = false) (ha : ∀ j, j < m → bB (l j) = true) (k : Nat) (hk : k ≤ m) : StepTo P S0 1 66 rw_b (rw_g s n l k) fun o S1 => (o = .normal ∧ ∃ g' : Nat, g' ≤ m ∧ m - g' < m - k ∧ Keeps S1 (rw_g s n l g')) ∨ (o = .ret ∧ Keeps S1 (rw_g s n l m)) := by
  by_cases h : k < m
  · exact rw_yes hn (by omega) (ha k h) fun S1 hk1 => .inl ⟨rfl, k + 1, h, by omega, hk1⟩
  · have e : k = m := by omega
    subst e
    exact rw_no hb hm fun S1 hk1 => .inr ⟨rfl, hk1⟩
noncomputable def rb_loop (s : Int) (n : Nat) (l : Nat → Bd) (hn : n ≤ 1000000) (m : Nat) (hm : m < n) (hb : bB (l m) = false) (ha : ∀ j, j < m → bB (l j) = true) : CodeC P :=
  loopC mo S0 (by rfl) 1 66 rw_b [900, 3, 0, 1, 2] (rw_g s n l) (fun k => k ≤ m) (fun k => m - k) .ret (rw_g s n l m) (by simp) (fun _ => rfl) rfl (fun _ => by kernel_rfl) (by kernel_rfl) [900] (fun _ => rfl) rfl
    (rb_step hn hm hb ha) 0 (Nat.zero_le _)
noncomputable def ra_E (s : Int) (n : Nat) (l : Nat → Bd) (hn : n ≤ 1000000) (ha : ∀ j, j < n → bB (l j) = true) : Env P := ⟨⟨[], []⟩, [ra_loop s n l hn ha], 20, []⟩
noncomputable def rb_E (s : Int) (n : Nat) (l : Nat → Bd) (hn : n ≤ 1000000) (m : Nat) (hm : m < n) (hb : bB (l m) = false) (ha : ∀ j, j < m → bB (l j) = true) : Env P := ⟨⟨[], []⟩, [rb_loop s n l hn m hm hb ha], 20, []⟩
theorem first_bad : ∀ {n : Nat} {l : Nat → Bd}, allB n l = false → ∃ m, m < n ∧ bB (l m) = false ∧ ∀ j, j < m → bB (l j) = true
  | 0, _, h => by cases h
  | n + 1, l, h => by
    rw [allB] at h
    cases h0 : bB (l 0) with
    | false => exact ⟨0, by omega, h0, fun j hj => by omega⟩
    | true =>
      rw [h0, Bool.true_and] at h
      obtain ⟨m, hm, hb, ha⟩ := first_bad h
      refine ⟨m + 1, by omega, hb, fun j hj => ?_⟩
      cases j with
      | zero => exact h0
      | succ j => exact ha j (by omega)
theorem ra_all (s : Int) (n : Nat) (l : Nat → Bd) (hn : n ≤ 1000000) (ha : ∀ j, j < n → bB (l j) = true) : GivesD P 26 [.st [.int .i64 s] ⟨40, 6, n, fun j => Bv (l j), false⟩, .v (.int .i64 1048576), .v (.int .i64 65536)] (.bool true) :=
  givesD_of_run (E := ra_E s n l hn ha) (lv := 1) (ds := (.n 0 :: [])) (v := .bool true) (ps := [Code.loop rw_b = innerOf P 26 0, (.int .i64 0 : Value) = .int .i64 ((0 : Nat) : Int), (.bool false : Value) = .bool false, (.int .i64 1048576 : Value) = .int .i64 1048576, (.int .i64 65536 : Value) = .int .i64 65536, (.ptr 3 0 : SV) = .ptr 3 0, (.int .i64 s : Value) = .int .i64 s, (.row 0 : SV) = .row 0, n = n, ∀ j, j < n → Bv (l j) = Bv (l j)]) mo (by kernel_rfl) (ps_cons (by kernel_rfl) (ps_cons rfl (ps_cons rfl (ps_cons rfl (ps_cons rfl (ps_cons rfl (ps_cons rfl (ps_cons rfl (ps_cons rfl (ps_cons (fun _ _ => rfl) ps_nil)))))))))) rfl
theorem rb_all (s : Int) (n : Nat) (l : Nat → Bd) (hn : n ≤ 1000000) (m : Nat) (hm : m < n) (hb : bB (l m) = false) (ha : ∀ j, j < m → bB (l j) = true) : GivesD P 26 [.st [.int .i64 s] ⟨40, 6, n, fun j => Bv (l j), false⟩, .v (.int .i64 1048576), .v (.int .i64 65536)] (.bool false) :=
  givesD_of_run (E := rb_E s n l hn m hm hb ha) (lv := 1) (ds := (.n 0 :: [])) (v := .bool false) (ps := [Code.loop rw_b = innerOf P 26 0, (.int .i64 0 : Value) = .int .i64 ((0 : Nat) : Int), (.bool false : Value) = .bool false, (.int .i64 1048576 : Value) = .int .i64 1048576, (.int .i64 65536 : Value) = .int .i64 65536, (.ptr 3 0 : SV) = .ptr 3 0, (.int .i64 s : Value) = .int .i64 s, (.row 0 : SV) = .row 0, n = n, ∀ j, j < n → Bv (l j) = Bv (l j)]) mo (by kernel_rfl) (ps_cons (by kernel_rfl) (ps_cons rfl (ps_cons rfl (ps_cons rfl (ps_cons rfl (ps_cons rfl (ps_cons rfl (ps_cons rfl (ps_cons rfl (ps_cons (fun _ _ => rfl) ps_nil)))))))))) rfl
theorem bv_el {n : Nat} {el : Nat → Value} (h : ∀ j, j < n → ∃ b, el j = Bv b) : ∀ j, j < n → Bv (rdB (el j)) = el j := fun j hj => by obtain ⟨b, e⟩ := h j hj; rw [e]; rfl
theorem sw_gives (ds : List DV) (h : wiP ds) : GivesD P 37 ds (wiV ds) := by
  unfold wiP at h
  split at h
  · rename_i s q a b
    obtain ⟨ty, sz, n, el, own⟩ := q
    obtain ⟨rfl, h1, h4, he, rfl, rfl⟩ := h
    refine st_el (ty2 := 40) ?_ (bv_el he)
    show GivesD P _ _ (.bool (allB n fun j => rdB (el j)))
    simp only at h1 h4
    rcases (by omega : n = 1 ∨ n = 2 ∨ n = 3 ∨ n = 4) with rfl | rfl | rfl | rfl
    · exact sw1_all s _
    · exact sw2_all s _
    · exact sw3_all s _
    · exact sw4_all s _
  · exact h.elim
theorem rw_gives (ds : List DV) (h : wiP ds) : GivesD P 26 ds (wiV ds) := by
  unfold wiP at h
  split at h
  · rename_i s q a b
    obtain ⟨ty, sz, n, el, own⟩ := q
    obtain ⟨rfl, h1, h4, he, rfl, rfl⟩ := h
    refine st_el (ty2 := 40) ?_ (bv_el he)
    show GivesD P _ _ (.bool (allB n fun j => rdB (el j)))
    simp only at h1 h4
    cases hb : allB n fun j => rdB (el j) with
    | true => exact ra_all s n _ (by omega) (allB_iff.1 hb)
    | false =>
      obtain ⟨m, hm, g1, g2⟩ := first_bad hb
      exact rb_all s n _ (by omega) m hm g1 g2
  · exact h.elim
noncomputable def cSW : CtrD P := ⟨37, wiP, wiV, sw_gives⟩
noncomputable def cRW : CtrD P := ⟨26, wiP, wiV, rw_gives⟩
noncomputable def S2 : Env P := ⟨⟨[], [cSW, cRW]⟩, [], 20, []⟩
def riP : List DV → Prop
  | [.st [.int .i64 _] q] => q.sz = 6 ∧ ∀ j, j < q.n → ∃ b, q.el j = Bv b
  | [.v x] => ∃ s, x = .agg #[.int .i64 s, .slice none 0 0]
  | _ => False
def riV : List DV → Value
  | [.st [.int _ s] q] => .bool (riB s q.n fun j => rdB (q.el j))
  | _ => .bool false
theorem stB_mx (s : Int) : (decide (mx s (IntKind.i64.wrap (0 - s)) ≤ 1073741824) && decide (s ≥ -1073741824)) = stB s := by
  unfold stB
  rw [Bool.eq_iff_iff]
  simp only [Bool.and_eq_true, decide_eq_true_eq]
  constructor
  · rintro ⟨h1, h2⟩
    rw [mx_le] at h1
    omega
  · rintro ⟨h1, h2⟩
    rw [mx_le, wr (by omega) (by omega)]
    omega
theorem sr0_leaf (s : Int) (n : Nat) (l : Nat → Bd)  (q0 : (decide (mx s (IntKind.i64.wrap (0 - s)) ≤ 1073741824)) = true) (q1 : (decide (s ≥ -1073741824)) = true) (q2 : (decide (((n : Nat) : Int) > 0)) = true) (q3 : (decide (((n : Nat) : Int) ≤ 4)) = true) : GivesD P 24 [.st [.int .i64 s] ⟨40, 6, n, fun j => Bv (l j), false⟩] (.bool (riB s n l)) := by
  try (have _y2 := of_decide_eq_true q2)
  try (have _y3 := of_decide_eq_true q3)
  refine givesD_of_run (E := S2) (lv := 1) (ds := (.b true :: (.b true :: (.b true :: (.b true :: []))))) (v := .bool (allB n l)) (ps := [(decide (mx s (IntKind.i64.wrap (0 - s)) ≤ 1073741824)) = true, (decide (s ≥ -1073741824)) = true, (decide (((n : Nat) : Int) > 0)) = true, (decide (((n : Nat) : Int) ≤ 4)) = true, wiP [.st [.int .i64 s] ⟨40, 6, n, fun j => Bv (l j), false⟩, .v (.int .i64 1048576), .v (.int .i64 65536)]]) mo (by kernel_rfl) (ps_cons q0 (ps_cons q1 (ps_cons q2 (ps_cons q3 (ps_cons ⟨rfl, (show 1 ≤ n by omega), (show n ≤ 4 by omega), fun _ _ => ⟨_, rfl⟩, rfl, rfl⟩ ps_nil))))) ?_
  have z0 := of_decide_eq_true q0
  have z1 := of_decide_eq_true q1
  have z2 := of_decide_eq_true q2
  have z3 := of_decide_eq_true q3
  have e := stB_mx s
  rw [q0, q1] at e
  unfold riB
  rw [← e, decide_eq_true (show 1 ≤ n by omega), decide_eq_true (show n ≤ 4 by omega)]
  rfl
theorem sr1_leaf (s : Int) (n : Nat) (l : Nat → Bd)  (q0 : (decide (mx s (IntKind.i64.wrap (0 - s)) ≤ 1073741824)) = false) : GivesD P 24 [.st [.int .i64 s] ⟨40, 6, n, fun j => Bv (l j), false⟩] (.bool (riB s n l)) := by
  try (have _y2 := of_decide_eq_true q2)
  try (have _y3 := of_decide_eq_true q3)
  refine givesD_of_run (E := S2) (lv := 1) (ds := (.b false :: [])) (v := .bool false) (ps := [(decide (mx s (IntKind.i64.wrap (0 - s)) ≤ 1073741824)) = false]) mo (by kernel_rfl) (ps_cons q0 ps_nil) ?_
  have z0 := of_decide_eq_false q0
  have e := stB_mx s
  rw [q0, Bool.false_and] at e
  unfold riB
  rw [← e]
  rfl
theorem sr2_leaf (s : Int) (n : Nat) (l : Nat → Bd)  (q0 : (decide (mx s (IntKind.i64.wrap (0 - s)) ≤ 1073741824)) = true) (q1 : (decide (s ≥ -1073741824)) = false) : GivesD P 24 [.st [.int .i64 s] ⟨40, 6, n, fun j => Bv (l j), false⟩] (.bool (riB s n l)) := by
  try (have _y2 := of_decide_eq_true q2)
  try (have _y3 := of_decide_eq_true q3)
  refine givesD_of_run (E := S2) (lv := 1) (ds := (.b true :: (.b false :: []))) (v := .bool false) (ps := [(decide (mx s (IntKind.i64.wrap (0 - s)) ≤ 1073741824)) = true, (decide (s ≥ -1073741824)) = false]) mo (by kernel_rfl) (ps_cons q0 (ps_cons q1 ps_nil)) ?_
  have z0 := of_decide_eq_true q0
  have z1 := of_decide_eq_false q1
  have e := stB_mx s
  rw [q0, q1] at e
  unfold riB
  rw [← e]
  rfl
theorem sr3_leaf (s : Int) (n : Nat) (l : Nat → Bd)  (q0 : (decide (mx s (IntKind.i64.wrap (0 - s)) ≤ 1073741824)) = true) (q1 : (decide (s ≥ -1073741824)) = true) (q2 : (decide (((n : Nat) : Int) > 0)) = false) : GivesD P 24 [.st [.int .i64 s] ⟨40, 6, n, fun j => Bv (l j), false⟩] (.bool (riB s n l)) := by
  try (have _y2 := of_decide_eq_true q2)
  try (have _y3 := of_decide_eq_true q3)
  refine givesD_of_run (E := S2) (lv := 1) (ds := (.b true :: (.b true :: (.b false :: [])))) (v := .bool false) (ps := [(decide (mx s (IntKind.i64.wrap (0 - s)) ≤ 1073741824)) = true, (decide (s ≥ -1073741824)) = true, (decide (((n : Nat) : Int) > 0)) = false]) mo (by kernel_rfl) (ps_cons q0 (ps_cons q1 (ps_cons q2 ps_nil))) ?_
  have z0 := of_decide_eq_true q0
  have z1 := of_decide_eq_true q1
  have z2 := of_decide_eq_false q2
  have e := stB_mx s
  rw [q0, q1] at e
  unfold riB
  rw [decide_eq_false (show ¬ (1 ≤ n) by omega)]
  simp
theorem sr4_leaf (s : Int) (n : Nat) (l : Nat → Bd)  (q0 : (decide (mx s (IntKind.i64.wrap (0 - s)) ≤ 1073741824)) = true) (q1 : (decide (s ≥ -1073741824)) = true) (q2 : (decide (((n : Nat) : Int) > 0)) = true) (q3 : (decide (((n : Nat) : Int) ≤ 4)) = false) : GivesD P 24 [.st [.int .i64 s] ⟨40, 6, n, fun j => Bv (l j), false⟩] (.bool (riB s n l)) := by
  try (have _y2 := of_decide_eq_true q2)
  try (have _y3 := of_decide_eq_true q3)
  refine givesD_of_run (E := S2) (lv := 1) (ds := (.b true :: (.b true :: (.b true :: (.b false :: []))))) (v := .bool false) (ps := [(decide (mx s (IntKind.i64.wrap (0 - s)) ≤ 1073741824)) = true, (decide (s ≥ -1073741824)) = true, (decide (((n : Nat) : Int) > 0)) = true, (decide (((n : Nat) : Int) ≤ 4)) = false]) mo (by kernel_rfl) (ps_cons q0 (ps_cons q1 (ps_cons q2 (ps_cons q3 ps_nil)))) ?_
  have z0 := of_decide_eq_true q0
  have z1 := of_decide_eq_true q1
  have z2 := of_decide_eq_true q2
  have z3 := of_decide_eq_false q3
  have e := stB_mx s
  rw [q0, q1] at e
  unfold riB
  rw [decide_eq_false (show ¬ (n ≤ 4) by omega)]
  simp
theorem srn0_leaf (s : Int)  (q0 : (decide (mx s (IntKind.i64.wrap (0 - s)) ≤ 1073741824)) = true) (q1 : (decide (s ≥ -1073741824)) = true) : GivesD P 24 [.v (.agg #[.int .i64 s, .slice none 0 0])] (.bool false) := by
  refine givesD_of_run (E := S2) (lv := 1) (ds := (.b true :: (.b true :: []))) (v := .bool false) (ps := [(decide (mx s (IntKind.i64.wrap (0 - s)) ≤ 1073741824)) = true, (decide (s ≥ -1073741824)) = true]) mo (by kernel_rfl) (ps_cons q0 (ps_cons q1 ps_nil)) ?_
  rfl
theorem srn1_leaf (s : Int)  (q0 : (decide (mx s (IntKind.i64.wrap (0 - s)) ≤ 1073741824)) = false) : GivesD P 24 [.v (.agg #[.int .i64 s, .slice none 0 0])] (.bool false) := by
  refine givesD_of_run (E := S2) (lv := 1) (ds := (.b false :: [])) (v := .bool false) (ps := [(decide (mx s (IntKind.i64.wrap (0 - s)) ≤ 1073741824)) = false]) mo (by kernel_rfl) (ps_cons q0 ps_nil) ?_
  rfl
theorem srn2_leaf (s : Int)  (q0 : (decide (mx s (IntKind.i64.wrap (0 - s)) ≤ 1073741824)) = true) (q1 : (decide (s ≥ -1073741824)) = false) : GivesD P 24 [.v (.agg #[.int .i64 s, .slice none 0 0])] (.bool false) := by
  refine givesD_of_run (E := S2) (lv := 1) (ds := (.b true :: (.b false :: []))) (v := .bool false) (ps := [(decide (mx s (IntKind.i64.wrap (0 - s)) ≤ 1073741824)) = true, (decide (s ≥ -1073741824)) = false]) mo (by kernel_rfl) (ps_cons q0 (ps_cons q1 ps_nil)) ?_
  rfl
theorem sr_all (s : Int) (n : Nat) (l : Nat → Bd) : GivesD P 24 [.st [.int .i64 s] ⟨40, 6, n, fun j => Bv (l j), false⟩] (.bool (riB s n l)) := by
  rcases Bool.eq_false_or_eq_true (decide (mx s (IntKind.i64.wrap (0 - s)) ≤ 1073741824)) with q0 | q0
  · rcases Bool.eq_false_or_eq_true (decide (s ≥ -1073741824)) with q1 | q1
    · rcases Bool.eq_false_or_eq_true (decide (((n : Nat) : Int) > 0)) with q2 | q2
      · rcases Bool.eq_false_or_eq_true (decide (((n : Nat) : Int) ≤ 4)) with q3 | q3
        · exact sr0_leaf s n l  q0 q1 q2 q3
        · exact sr4_leaf s n l  q0 q1 q2 q3
      · exact sr3_leaf s n l  q0 q1 q2
    · exact sr2_leaf s n l  q0 q1
  · exact sr1_leaf s n l  q0
theorem sr_nil (s : Int) : GivesD P 24 [.v (.agg #[.int .i64 s, .slice none 0 0])] (.bool false) := by
  rcases Bool.eq_false_or_eq_true (decide (mx s (IntKind.i64.wrap (0 - s)) ≤ 1073741824)) with q0 | q0
  · rcases Bool.eq_false_or_eq_true (decide (s ≥ -1073741824)) with q1 | q1
    · exact srn0_leaf s  q0 q1
    · exact srn2_leaf s  q0 q1
  · exact srn1_leaf s  q0
theorem sr_gives (ds : List DV) (h : riP ds) : GivesD P 24 ds (riV ds) := by
  unfold riP at h
  split at h
  · rename_i s q
    obtain ⟨ty, sz, n, el, own⟩ := q
    obtain ⟨rfl, he⟩ := h
    exact st_el (ty2 := 40) (sr_all s n fun j => rdB (el j)) (bv_el he)
  · obtain ⟨s, rfl⟩ := h
    exact sr_nil s
  · exact h.elim
noncomputable def sr_c : CtrD P := ⟨24, riP, riV, sr_gives⟩
theorem rr0_leaf (s : Int) (n : Nat) (l : Nat → Bd)  (q0 : (decide (s ≥ -1073741824)) = true) (q1 : (decide (s ≤ 1073741824)) = true) (q2 : (decide (((n : Nat) : Int) ≥ 1)) = true) (q3 : (decide (((n : Nat) : Int) ≤ 4)) = true) : GivesD P 15 [.st [.int .i64 s] ⟨40, 6, n, fun j => Bv (l j), false⟩] (.bool (riB s n l)) := by
  try (have _y2 := of_decide_eq_true q2)
  try (have _y3 := of_decide_eq_true q3)
  refine givesD_of_run (E := S2) (lv := 1) (ds := (.b true :: (.b true :: (.b true :: (.b true :: []))))) (v := .bool (allB n l)) (ps := [(decide (s ≥ -1073741824)) = true, (decide (s ≤ 1073741824)) = true, (decide (((n : Nat) : Int) ≥ 1)) = true, (decide (((n : Nat) : Int) ≤ 4)) = true, wiP [.st [.int .i64 s] ⟨40, 6, n, fun j => Bv (l j), false⟩, .v (.int .i64 1048576), .v (.int .i64 65536)]]) mo (by kernel_rfl) (ps_cons q0 (ps_cons q1 (ps_cons q2 (ps_cons q3 (ps_cons ⟨rfl, (show 1 ≤ n by omega), (show n ≤ 4 by omega), fun _ _ => ⟨_, rfl⟩, rfl, rfl⟩ ps_nil))))) ?_
  have z0 := of_decide_eq_true q0
  have z1 := of_decide_eq_true q1
  have z2 := of_decide_eq_true q2
  have z3 := of_decide_eq_true q3
  have e : stB s = true := by unfold stB; rw [decide_eq_true (by omega), decide_eq_true (by omega)]; rfl
  unfold riB
  rw [e, decide_eq_true (show 1 ≤ n by omega), decide_eq_true (show n ≤ 4 by omega)]
  rfl
theorem rr1_leaf (s : Int) (n : Nat) (l : Nat → Bd)  (q0 : (decide (s ≥ -1073741824)) = false) : GivesD P 15 [.st [.int .i64 s] ⟨40, 6, n, fun j => Bv (l j), false⟩] (.bool (riB s n l)) := by
  try (have _y2 := of_decide_eq_true q2)
  try (have _y3 := of_decide_eq_true q3)
  refine givesD_of_run (E := S2) (lv := 1) (ds := (.b false :: [])) (v := .bool false) (ps := [(decide (s ≥ -1073741824)) = false]) mo (by kernel_rfl) (ps_cons q0 ps_nil) ?_
  have z0 := of_decide_eq_false q0
  have e : stB s = false := by
    unfold stB
    rw [decide_eq_false (show ¬ (-1073741824 ≤ s) by omega)]; rfl
  unfold riB
  rw [e]
  rfl
theorem rr2_leaf (s : Int) (n : Nat) (l : Nat → Bd)  (q0 : (decide (s ≥ -1073741824)) = true) (q1 : (decide (s ≤ 1073741824)) = false) : GivesD P 15 [.st [.int .i64 s] ⟨40, 6, n, fun j => Bv (l j), false⟩] (.bool (riB s n l)) := by
  try (have _y2 := of_decide_eq_true q2)
  try (have _y3 := of_decide_eq_true q3)
  refine givesD_of_run (E := S2) (lv := 1) (ds := (.b true :: (.b false :: []))) (v := .bool false) (ps := [(decide (s ≥ -1073741824)) = true, (decide (s ≤ 1073741824)) = false]) mo (by kernel_rfl) (ps_cons q0 (ps_cons q1 ps_nil)) ?_
  have z0 := of_decide_eq_true q0
  have z1 := of_decide_eq_false q1
  have e : stB s = false := by
    unfold stB
    rw [decide_eq_false (show ¬ (s ≤ 1073741824) by omega), Bool.and_false]
  unfold riB
  rw [e]
  rfl
theorem rr3_leaf (s : Int) (n : Nat) (l : Nat → Bd)  (q0 : (decide (s ≥ -1073741824)) = true) (q1 : (decide (s ≤ 1073741824)) = true) (q2 : (decide (((n : Nat) : Int) ≥ 1)) = false) : GivesD P 15 [.st [.int .i64 s] ⟨40, 6, n, fun j => Bv (l j), false⟩] (.bool (riB s n l)) := by
  try (have _y2 := of_decide_eq_true q2)
  try (have _y3 := of_decide_eq_true q3)
  refine givesD_of_run (E := S2) (lv := 1) (ds := (.b true :: (.b true :: (.b false :: [])))) (v := .bool false) (ps := [(decide (s ≥ -1073741824)) = true, (decide (s ≤ 1073741824)) = true, (decide (((n : Nat) : Int) ≥ 1)) = false]) mo (by kernel_rfl) (ps_cons q0 (ps_cons q1 (ps_cons q2 ps_nil))) ?_
  have z0 := of_decide_eq_true q0
  have z1 := of_decide_eq_true q1
  have z2 := of_decide_eq_false q2
  have e : stB s = true := by unfold stB; rw [decide_eq_true (by omega), decide_eq_true (by omega)]; rfl
  unfold riB
  rw [decide_eq_false (show ¬ (1 ≤ n) by omega)]
  simp
theorem rr4_leaf (s : Int) (n : Nat) (l : Nat → Bd)  (q0 : (decide (s ≥ -1073741824)) = true) (q1 : (decide (s ≤ 1073741824)) = true) (q2 : (decide (((n : Nat) : Int) ≥ 1)) = true) (q3 : (decide (((n : Nat) : Int) ≤ 4)) = false) : GivesD P 15 [.st [.int .i64 s] ⟨40, 6, n, fun j => Bv (l j), false⟩] (.bool (riB s n l)) := by
  try (have _y2 := of_decide_eq_true q2)
  try (have _y3 := of_decide_eq_true q3)
  refine givesD_of_run (E := S2) (lv := 1) (ds := (.b true :: (.b true :: (.b true :: (.b false :: []))))) (v := .bool false) (ps := [(decide (s ≥ -1073741824)) = true, (decide (s ≤ 1073741824)) = true, (decide (((n : Nat) : Int) ≥ 1)) = true, (decide (((n : Nat) : Int) ≤ 4)) = false]) mo (by kernel_rfl) (ps_cons q0 (ps_cons q1 (ps_cons q2 (ps_cons q3 ps_nil)))) ?_
  have z0 := of_decide_eq_true q0
  have z1 := of_decide_eq_true q1
  have z2 := of_decide_eq_true q2
  have z3 := of_decide_eq_false q3
  have e : stB s = true := by unfold stB; rw [decide_eq_true (by omega), decide_eq_true (by omega)]; rfl
  unfold riB
  rw [decide_eq_false (show ¬ (n ≤ 4) by omega)]
  simp
theorem rrn0_leaf (s : Int)  (q0 : (decide (s ≥ -1073741824)) = true) (q1 : (decide (s ≤ 1073741824)) = true) : GivesD P 15 [.v (.agg #[.int .i64 s, .slice none 0 0])] (.bool false) := by
  refine givesD_of_run (E := S2) (lv := 1) (ds := (.b true :: (.b true :: []))) (v := .bool false) (ps := [(decide (s ≥ -1073741824)) = true, (decide (s ≤ 1073741824)) = true]) mo (by kernel_rfl) (ps_cons q0 (ps_cons q1 ps_nil)) ?_
  rfl
theorem rrn1_leaf (s : Int)  (q0 : (decide (s ≥ -1073741824)) = false) : GivesD P 15 [.v (.agg #[.int .i64 s, .slice none 0 0])] (.bool false) := by
  refine givesD_of_run (E := S2) (lv := 1) (ds := (.b false :: [])) (v := .bool false) (ps := [(decide (s ≥ -1073741824)) = false]) mo (by kernel_rfl) (ps_cons q0 ps_nil) ?_
  rfl
theorem rrn2_leaf (s : Int)  (q0 : (decide (s ≥ -1073741824)) = true) (q1 : (decide (s ≤ 1073741824)) = false) : GivesD P 15 [.v (.agg #[.int .i64 s, .slice none 0 0])] (.bool false) := by
  refine givesD_of_run (E := S2) (lv := 1) (ds := (.b true :: (.b false :: []))) (v := .bool false) (ps := [(decide (s ≥ -1073741824)) = true, (decide (s ≤ 1073741824)) = false]) mo (by kernel_rfl) (ps_cons q0 (ps_cons q1 ps_nil)) ?_
  rfl
theorem rr_all (s : Int) (n : Nat) (l : Nat → Bd) : GivesD P 15 [.st [.int .i64 s] ⟨40, 6, n, fun j => Bv (l j), false⟩] (.bool (riB s n l)) := by
  rcases Bool.eq_false_or_eq_true (decide (s ≥ -1073741824)) with q0 | q0
  · rcases Bool.eq_false_or_eq_true (decide (s ≤ 1073741824)) with q1 | q1
    · rcases Bool.eq_false_or_eq_true (decide (((n : Nat) : Int) ≥ 1)) with q2 | q2
      · rcases Bool.eq_false_or_eq_true (decide (((n : Nat) : Int) ≤ 4)) with q3 | q3
        · exact rr0_leaf s n l  q0 q1 q2 q3
        · exact rr4_leaf s n l  q0 q1 q2 q3
      · exact rr3_leaf s n l  q0 q1 q2
    · exact rr2_leaf s n l  q0 q1
  · exact rr1_leaf s n l  q0
theorem rr_nil (s : Int) : GivesD P 15 [.v (.agg #[.int .i64 s, .slice none 0 0])] (.bool false) := by
  rcases Bool.eq_false_or_eq_true (decide (s ≥ -1073741824)) with q0 | q0
  · rcases Bool.eq_false_or_eq_true (decide (s ≤ 1073741824)) with q1 | q1
    · exact rrn0_leaf s  q0 q1
    · exact rrn2_leaf s  q0 q1
  · exact rrn1_leaf s  q0
theorem rr_gives (ds : List DV) (h : riP ds) : GivesD P 15 ds (riV ds) := by
  unfold riP at h
  split at h
  · rename_i s q
    obtain ⟨ty, sz, n, el, own⟩ := q
    obtain ⟨rfl, he⟩ := h
    exact st_el (ty2 := 40) (rr_all s n fun j => rdB (el j)) (bv_el he)
  · obtain ⟨s, rfl⟩ := h
    exact rr_nil s
  · exact h.elim
noncomputable def rr_c : CtrD P := ⟨15, riP, riV, rr_gives⟩
end Go.He
