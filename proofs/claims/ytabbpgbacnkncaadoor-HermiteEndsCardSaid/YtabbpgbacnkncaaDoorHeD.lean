/-
  Laws of chapter 28: HermiteNear, HermiteEnds, HermiteStraight come to true. Printed by heD.py.
-/
import Derived.Test.YtabbpgbacnkncaaDoorHeC
set_option maxRecDepth 100000
namespace Go.He
open Go Go.RowKit Go.Sx Go.Nm Go.Wd Go.Qt Go.Proofs

def mn (x y : Int) : Int := if y < x then y else x
def mx (x y : Int) : Int := if y > x then y else x
def lmB (x v y w h t : Int) : Bool := (decide (mx (mx (mx x (IntKind.i64.wrap (0 - x))) y) (IntKind.i64.wrap (0 - y)) ≤ 2097152) && (decide (mx (mx (mx v (IntKind.i64.wrap (0 - v))) w) (IntKind.i64.wrap (0 - w)) ≤ 131072) && (decide (mn (mn (mn x y) v) w ≥ -2097152) && (decide (h ≥ 1) && (decide (h ≤ 4096) && (decide (t ≥ 0) && decide (t ≤ h)))))))
theorem mx_le {a b c : Int} : mx a b ≤ c ↔ a ≤ c ∧ b ≤ c := by unfold mx; omega
theorem mn_ge {a b c : Int} : mn a b ≥ c ↔ a ≥ c ∧ b ≥ c := by unfold mn; omega
theorem lm_may {x v y w h t : Int} (_rx : I64 x) (rv : I64 v) (_ry : I64 y) (rw' : I64 w) (q : lmB x v y w h t = true) : May x v y w h t := by
  unfold lmB at q
  simp only [Bool.and_eq_true, decide_eq_true_eq, mx_le, mn_ge] at q
  obtain ⟨⟨⟨⟨x1, x2⟩, y1⟩, y2⟩, ⟨⟨⟨v1, v2⟩, w1⟩, w2⟩, ⟨⟨⟨m1, m2⟩, m3⟩, m4⟩, h1, h2, t1, t2⟩ := q
  unfold I64 at *
  rw [wr (by omega) (by omega)] at x2 y2 v2 w2
  exact ⟨by omega, by omega, by omega, by omega, by omega, by omega, by omega, by omega, h1, h2, t1, t2⟩
def lmP : List Value → Prop
  | [.int .i64 _, .int .i64 _, .int .i64 _, .int .i64 _, .int .i64 _, .int .i64 _] => True
  | _ => False
def lmV : List Value → Value
  | [.int _ x, .int _ v, .int _ y, .int _ w, .int _ h, .int _ t] => .bool (lmB x v y w h t)
  | _ => undef
noncomputable def E0 : Env P := ⟨⟨[], []⟩, [], 10, []⟩
theorem lm0_run (x v y w h t : Int) : runF P E0 1 18 [.int .i64 x, .int .i64 v, .int .i64 y, .int .i64 w, .int .i64 h, .int .i64 t] (.b true :: (.b true :: (.b true :: (.b true :: (.b true :: (.b true :: [])))))) =
  some (.bool (decide (t ≤ h)),
    [(decide (mx (mx (mx x (IntKind.i64.wrap (0 - x))) y) (IntKind.i64.wrap (0 - y)) ≤ 2097152)) = true,
     (decide (mx (mx (mx v (IntKind.i64.wrap (0 - v))) w) (IntKind.i64.wrap (0 - w)) ≤ 131072)) = true,
     (decide (mn (mn (mn x y) v) w ≥ -2097152)) = true,
     (decide (h ≥ 1)) = true,
     (decide (h ≤ 4096)) = true,
     (decide (t ≥ 0)) = true]) := by kernel_rfl
theorem lm0_leaf (x v y w h t : Int)  (q0 : (decide (mx (mx (mx x (IntKind.i64.wrap (0 - x))) y) (IntKind.i64.wrap (0 - y)) ≤ 2097152)) = true) (q1 : (decide (mx (mx (mx v (IntKind.i64.wrap (0 - v))) w) (IntKind.i64.wrap (0 - w)) ≤ 131072)) = true) (q2 : (decide (mn (mn (mn x y) v) w ≥ -2097152)) = true) (q3 : (decide (h ≥ 1)) = true) (q4 : (decide (h ≤ 4096)) = true) (q5 : (decide (t ≥ 0)) = true) : Gives P 18 #[.int .i64 x, .int .i64 v, .int .i64 y, .int .i64 w, .int .i64 h, .int .i64 t] (.bool (lmB x v y w h t)) := by
  have R := lm0_run x v y w h t
  refine gives_of_run mo R (ps_cons q0 (ps_cons q1 (ps_cons q2 (ps_cons q3 (ps_cons q4 (ps_cons q5 ps_nil)))))) ?_
  unfold lmB
  rw [q0, q1, q2, q3, q4, q5]
  rfl
theorem lm1_run (x v y w h t : Int) : runF P E0 1 18 [.int .i64 x, .int .i64 v, .int .i64 y, .int .i64 w, .int .i64 h, .int .i64 t] (.b false :: []) =
  some (.bool false,
    [(decide (mx (mx (mx x (IntKind.i64.wrap (0 - x))) y) (IntKind.i64.wrap (0 - y)) ≤ 2097152)) = false]) := by kernel_rfl
theorem lm1_leaf (x v y w h t : Int)  (q0 : (decide (mx (mx (mx x (IntKind.i64.wrap (0 - x))) y) (IntKind.i64.wrap (0 - y)) ≤ 2097152)) = false) : Gives P 18 #[.int .i64 x, .int .i64 v, .int .i64 y, .int .i64 w, .int .i64 h, .int .i64 t] (.bool (lmB x v y w h t)) := by
  have R := lm1_run x v y w h t
  refine gives_of_run mo R (ps_cons q0 ps_nil) ?_
  unfold lmB
  rw [q0]
  rfl
theorem lm2_run (x v y w h t : Int) : runF P E0 1 18 [.int .i64 x, .int .i64 v, .int .i64 y, .int .i64 w, .int .i64 h, .int .i64 t] (.b true :: (.b false :: [])) =
  some (.bool false,
    [(decide (mx (mx (mx x (IntKind.i64.wrap (0 - x))) y) (IntKind.i64.wrap (0 - y)) ≤ 2097152)) = true,
     (decide (mx (mx (mx v (IntKind.i64.wrap (0 - v))) w) (IntKind.i64.wrap (0 - w)) ≤ 131072)) = false]) := by kernel_rfl
theorem lm2_leaf (x v y w h t : Int)  (q0 : (decide (mx (mx (mx x (IntKind.i64.wrap (0 - x))) y) (IntKind.i64.wrap (0 - y)) ≤ 2097152)) = true) (q1 : (decide (mx (mx (mx v (IntKind.i64.wrap (0 - v))) w) (IntKind.i64.wrap (0 - w)) ≤ 131072)) = false) : Gives P 18 #[.int .i64 x, .int .i64 v, .int .i64 y, .int .i64 w, .int .i64 h, .int .i64 t] (.bool (lmB x v y w h t)) := by
  have R := lm2_run x v y w h t
  refine gives_of_run mo R (ps_cons q0 (ps_cons q1 ps_nil)) ?_
  unfold lmB
  rw [q0, q1]
  rfl
theorem lm3_run (x v y w h t : Int) : runF P E0 1 18 [.int .i64 x, .int .i64 v, .int .i64 y, .int .i64 w, .int .i64 h, .int .i64 t] (.b true :: (.b true :: (.b false :: []))) =
  some (.bool false,
    [(decide (mx (mx (mx x (IntKind.i64.wrap (0 - x))) y) (IntKind.i64.wrap (0 - y)) ≤ 2097152)) = true,
     (decide (mx (mx (mx v (IntKind.i64.wrap (0 - v))) w) (IntKind.i64.wrap (0 - w)) ≤ 131072)) = true,
     (decide (mn (mn (mn x y) v) w ≥ -2097152)) = false]) := by kernel_rfl
theorem lm3_leaf (x v y w h t : Int)  (q0 : (decide (mx (mx (mx x (IntKind.i64.wrap (0 - x))) y) (IntKind.i64.wrap (0 - y)) ≤ 2097152)) = true) (q1 : (decide (mx (mx (mx v (IntKind.i64.wrap (0 - v))) w) (IntKind.i64.wrap (0 - w)) ≤ 131072)) = true) (q2 : (decide (mn (mn (mn x y) v) w ≥ -2097152)) = false) : Gives P 18 #[.int .i64 x, .int .i64 v, .int .i64 y, .int .i64 w, .int .i64 h, .int .i64 t] (.bool (lmB x v y w h t)) := by
  have R := lm3_run x v y w h t
  refine gives_of_run mo R (ps_cons q0 (ps_cons q1 (ps_cons q2 ps_nil))) ?_
  unfold lmB
  rw [q0, q1, q2]
  rfl
theorem lm4_run (x v y w h t : Int) : runF P E0 1 18 [.int .i64 x, .int .i64 v, .int .i64 y, .int .i64 w, .int .i64 h, .int .i64 t] (.b true :: (.b true :: (.b true :: (.b false :: [])))) =
  some (.bool false,
    [(decide (mx (mx (mx x (IntKind.i64.wrap (0 - x))) y) (IntKind.i64.wrap (0 - y)) ≤ 2097152)) = true,
     (decide (mx (mx (mx v (IntKind.i64.wrap (0 - v))) w) (IntKind.i64.wrap (0 - w)) ≤ 131072)) = true,
     (decide (mn (mn (mn x y) v) w ≥ -2097152)) = true,
     (decide (h ≥ 1)) = false]) := by kernel_rfl
theorem lm4_leaf (x v y w h t : Int)  (q0 : (decide (mx (mx (mx x (IntKind.i64.wrap (0 - x))) y) (IntKind.i64.wrap (0 - y)) ≤ 2097152)) = true) (q1 : (decide (mx (mx (mx v (IntKind.i64.wrap (0 - v))) w) (IntKind.i64.wrap (0 - w)) ≤ 131072)) = true) (q2 : (decide (mn (mn (mn x y) v) w ≥ -2097152)) = true) (q3 : (decide (h ≥ 1)) = false) : Gives P 18 #[.int .i64 x, .int .i64 v, .int .i64 y, .int .i64 w, .int .i64 h, .int .i64 t] (.bool (lmB x v y w h t)) := by
  have R := lm4_run x v y w h t
  refine gives_of_run mo R (ps_cons q0 (ps_cons q1 (ps_cons q2 (ps_cons q3 ps_nil)))) ?_
  unfold lmB
  rw [q0, q1, q2, q3]
  rfl
theorem lm5_run (x v y w h t : Int) : runF P E0 1 18 [.int .i64 x, .int .i64 v, .int .i64 y, .int .i64 w, .int .i64 h, .int .i64 t] (.b true :: (.b true :: (.b true :: (.b true :: (.b false :: []))))) =
  some (.bool false,
    [(decide (mx (mx (mx x (IntKind.i64.wrap (0 - x))) y) (IntKind.i64.wrap (0 - y)) ≤ 2097152)) = true,
     (decide (mx (mx (mx v (IntKind.i64.wrap (0 - v))) w) (IntKind.i64.wrap (0 - w)) ≤ 131072)) = true,
     (decide (mn (mn (mn x y) v) w ≥ -2097152)) = true,
     (decide (h ≥ 1)) = true,
     (decide (h ≤ 4096)) = false]) := by kernel_rfl
theorem lm5_leaf (x v y w h t : Int)  (q0 : (decide (mx (mx (mx x (IntKind.i64.wrap (0 - x))) y) (IntKind.i64.wrap (0 - y)) ≤ 2097152)) = true) (q1 : (decide (mx (mx (mx v (IntKind.i64.wrap (0 - v))) w) (IntKind.i64.wrap (0 - w)) ≤ 131072)) = true) (q2 : (decide (mn (mn (mn x y) v) w ≥ -2097152)) = true) (q3 : (decide (h ≥ 1)) = true) (q4 : (decide (h ≤ 4096)) = false) : Gives P 18 #[.int .i64 x, .int .i64 v, .int .i64 y, .int .i64 w, .int .i64 h, .int .i64 t] (.bool (lmB x v y w h t)) := by
  have R := lm5_run x v y w h t
  refine gives_of_run mo R (ps_cons q0 (ps_cons q1 (ps_cons q2 (ps_cons q3 (ps_cons q4 ps_nil))))) ?_
  unfold lmB
  rw [q0, q1, q2, q3, q4]
  rfl
theorem lm6_run (x v y w h t : Int) : runF P E0 1 18 [.int .i64 x, .int .i64 v, .int .i64 y, .int .i64 w, .int .i64 h, .int .i64 t] (.b true :: (.b true :: (.b true :: (.b true :: (.b true :: (.b false :: [])))))) =
  some (.bool false,
    [(decide (mx (mx (mx x (IntKind.i64.wrap (0 - x))) y) (IntKind.i64.wrap (0 - y)) ≤ 2097152)) = true,
     (decide (mx (mx (mx v (IntKind.i64.wrap (0 - v))) w) (IntKind.i64.wrap (0 - w)) ≤ 131072)) = true,
     (decide (mn (mn (mn x y) v) w ≥ -2097152)) = true,
     (decide (h ≥ 1)) = true,
     (decide (h ≤ 4096)) = true,
     (decide (t ≥ 0)) = false]) := by kernel_rfl
theorem lm6_leaf (x v y w h t : Int)  (q0 : (decide (mx (mx (mx x (IntKind.i64.wrap (0 - x))) y) (IntKind.i64.wrap (0 - y)) ≤ 2097152)) = true) (q1 : (decide (mx (mx (mx v (IntKind.i64.wrap (0 - v))) w) (IntKind.i64.wrap (0 - w)) ≤ 131072)) = true) (q2 : (decide (mn (mn (mn x y) v) w ≥ -2097152)) = true) (q3 : (decide (h ≥ 1)) = true) (q4 : (decide (h ≤ 4096)) = true) (q5 : (decide (t ≥ 0)) = false) : Gives P 18 #[.int .i64 x, .int .i64 v, .int .i64 y, .int .i64 w, .int .i64 h, .int .i64 t] (.bool (lmB x v y w h t)) := by
  have R := lm6_run x v y w h t
  refine gives_of_run mo R (ps_cons q0 (ps_cons q1 (ps_cons q2 (ps_cons q3 (ps_cons q4 (ps_cons q5 ps_nil)))))) ?_
  unfold lmB
  rw [q0, q1, q2, q3, q4, q5]
  rfl
theorem lm_gives (args : List Value) (hp : lmP args) : Gives P 18 args.toArray (lmV args) := by
  unfold lmP at hp
  split at hp
  · rename_i x v y w h t
    show Gives P _ #[.int .i64 x, .int .i64 v, .int .i64 y, .int .i64 w, .int .i64 h, .int .i64 t] (.bool (lmB x v y w h t))
    cases q0 : (decide (mx (mx (mx x (IntKind.i64.wrap (0 - x))) y) (IntKind.i64.wrap (0 - y)) ≤ 2097152)) with
    | true =>
      cases q1 : (decide (mx (mx (mx v (IntKind.i64.wrap (0 - v))) w) (IntKind.i64.wrap (0 - w)) ≤ 131072)) with
      | true =>
        cases q2 : (decide (mn (mn (mn x y) v) w ≥ -2097152)) with
        | true =>
          cases q3 : (decide (h ≥ 1)) with
          | true =>
            cases q4 : (decide (h ≤ 4096)) with
            | true =>
              cases q5 : (decide (t ≥ 0)) with
              | true =>
                exact lm0_leaf x v y w h t  q0 q1 q2 q3 q4 q5
              | false =>
                exact lm6_leaf x v y w h t  q0 q1 q2 q3 q4 q5
            | false =>
              exact lm5_leaf x v y w h t  q0 q1 q2 q3 q4
          | false =>
            exact lm4_leaf x v y w h t  q0 q1 q2 q3
        | false =>
          exact lm3_leaf x v y w h t  q0 q1 q2
      | false =>
        exact lm2_leaf x v y w h t  q0 q1
    | false =>
      exact lm1_leaf x v y w h t  q0
  · exact hp.elim
noncomputable def cMay : Ctr P := ⟨18, lmP, lmV, lm_gives⟩
def wakesP : List Value → Prop
  | [] => True
  | _ => False
def wakesV : List Value → Value
  | [] => .bool true
  | _ => undef
noncomputable def EW : Env P := ⟨⟨cFine :: (hermC ++ (wideC ++ quotC)), []⟩, [], 30, []⟩
theorem wakes_run : runF P EW 10 8 [] (.b true :: (.b true :: [])) = some (.bool true,
    [plP [.int .i64 0, .int .i64 0, .int .i64 8, .int .i64 0, .int .i64 2, .int .i64 1],
     spP [.int .i64 0, .int .i64 0, .int .i64 8, .int .i64 0, .int .i64 2, .int .i64 1],
     plP [.int .i64 0, .int .i64 0, .int .i64 8, .int .i64 0, .int .i64 2, .int .i64 3],
     0 < 1,
     0 < 1,
     0 < 1,
     0 < 1,
     0 < 1,
     0 < 1,
     0 < 1,
     0 < 1,
     neP [.agg #[.int .i64 1, .int .i64 1, .int .i64 3, .int .i64 1, .int .i64 2, .int .i64 1], .func (.func 25) #[] #[]],
     neP [.agg #[.int .i64 1, .int .i64 1, .int .i64 3, .int .i64 1, .int .i64 2, .int .i64 1], .func (.func 28) #[] #[]],
     neP [.agg #[.int .i64 2, .int .i64 0, .int .i64 2, .int .i64 0, .int .i64 2, .int .i64 1], .func (.func 25) #[] #[]],
     neP [.agg #[.int .i64 2, .int .i64 0, .int .i64 2, .int .i64 0, .int .i64 2, .int .i64 1], .func (.func 28) #[] #[]],
     neP [.agg #[.int .i64 3, .int .i64 (-1), .int .i64 1, .int .i64 (-1), .int .i64 2, .int .i64 1], .func (.func 25) #[] #[]],
     neP [.agg #[.int .i64 3, .int .i64 (-1), .int .i64 1, .int .i64 (-1), .int .i64 2, .int .i64 1], .func (.func 28) #[] #[]],
     0 < 1000000,
     weP [.int .i64 2, .int .i64 1],
     0 < 1,
     0 < 1,
     0 < 1,
     0 < 1]) := by kernel_rfl
theorem wakes_gives (args : List Value) (h : wakesP args) : Gives P 8 args.toArray (wakesV args) := by
  unfold wakesP at h
  split at h
  · exact gives_of_run mo wakes_run (ps_cons trivial (ps_cons trivial (ps_cons trivial (ps_cons (by decide) (ps_cons (by decide) (ps_cons (by decide) (ps_cons (by decide) (ps_cons (by decide) (ps_cons (by decide) (ps_cons (by decide) (ps_cons (by decide) (ps_cons ⟨⟨_, _, _, _, _, _, rfl⟩, by first | exact .inl rfl | exact .inr rfl⟩ (ps_cons ⟨⟨_, _, _, _, _, _, rfl⟩, by first | exact .inl rfl | exact .inr rfl⟩ (ps_cons ⟨⟨_, _, _, _, _, _, rfl⟩, by first | exact .inl rfl | exact .inr rfl⟩ (ps_cons ⟨⟨_, _, _, _, _, _, rfl⟩, by first | exact .inl rfl | exact .inr rfl⟩ (ps_cons ⟨⟨_, _, _, _, _, _, rfl⟩, by first | exact .inl rfl | exact .inr rfl⟩ (ps_cons ⟨⟨_, _, _, _, _, _, rfl⟩, by first | exact .inl rfl | exact .inr rfl⟩ (ps_cons (by decide) (ps_cons trivial (ps_cons (by decide) (ps_cons (by decide) (ps_cons (by decide) (ps_cons (by decide) ps_nil))))))))))))))))))))))) rfl
  · exact h.elim
noncomputable def cWakes : Ctr P := ⟨8, wakesP, wakesV, wakes_gives⟩
def pmP : List Value → Prop
  | [.int .i64 x, .int .i64 v, .int .i64 y, .int .i64 w, .int .i64 h, .int .i64 t] => May x v y w h t
  | _ => False
def pmV : List Value → Value
  | [.int _ x, .int _ v, .int _ y, .int _ w, .int _ h, .int _ t] => .tuple #[.int .i64 (place x v y w h t), .int .i64 0]
  | _ => undef
theorem pm_gives (args : List Value) (hp : pmP args) : Gives P 9 args.toArray (pmV args) := by
  unfold pmP at hp
  split at hp
  · rename_i x v y w h t
    have g := pl_gives [.int .i64 x, .int .i64 v, .int .i64 y, .int .i64 w, .int .i64 h, .int .i64 t] trivial
    have e : plV [.int .i64 x, .int .i64 v, .int .i64 y, .int .i64 w, .int .i64 h, .int .i64 t] = pmV [.int .i64 x, .int .i64 v, .int .i64 y, .int .i64 w, .int .i64 h, .int .i64 t] := by
      show Value.tuple #[.int .i64 (placeI x v y w h t), .int .i64 (bif mayB x v y w h t then 0 else 2)] = .tuple #[.int .i64 (place x v y w h t), .int .i64 0]
      unfold placeI
      rw [may_iff.2 hp]
      rfl
    rw [← e]
    exact g
  · exact hp.elim
noncomputable def cPlace' : Ctr P := ⟨9, pmP, pmV, pm_gives⟩
def smP : List Value → Prop
  | [.int .i64 x, .int .i64 v, .int .i64 y, .int .i64 w, .int .i64 h, .int .i64 t] => May x v y w h t
  | _ => False
def smV : List Value → Value
  | [.int _ x, .int _ v, .int _ y, .int _ w, .int _ h, .int _ t] => .tuple #[.int .i64 (speed x v y w h t), .int .i64 0]
  | _ => undef
theorem sm_gives (args : List Value) (hp : smP args) : Gives P 11 args.toArray (smV args) := by
  unfold smP at hp
  split at hp
  · rename_i x v y w h t
    have g := sp_gives [.int .i64 x, .int .i64 v, .int .i64 y, .int .i64 w, .int .i64 h, .int .i64 t] trivial
    have e : spV [.int .i64 x, .int .i64 v, .int .i64 y, .int .i64 w, .int .i64 h, .int .i64 t] = smV [.int .i64 x, .int .i64 v, .int .i64 y, .int .i64 w, .int .i64 h, .int .i64 t] := by
      show Value.tuple #[.int .i64 (speedI x v y w h t), .int .i64 (bif mayB x v y w h t then 0 else 2)] = .tuple #[.int .i64 (speed x v y w h t), .int .i64 0]
      unfold speedI
      rw [may_iff.2 hp]
      rfl
    rw [← e]
    exact g
  · exact hp.elim
noncomputable def cSpeed' : Ctr P := ⟨11, smP, smV, sm_gives⟩
def wmP : List Value → Prop
  | [.int .i64 h, .int .i64 t] => 1 ≤ h ∧ h ≤ 4096 ∧ 0 ≤ t ∧ t ≤ h
  | _ => False
def wmV : List Value → Value
  | [.int _ h, .int _ t] => .tuple #[.agg #[.int .i64 (pA h t), .int .i64 (pB h t), .int .i64 (pC h t), .int .i64 (pD h t)], .int .i64 0]
  | _ => undef
theorem wm_gives (args : List Value) (hp : wmP args) : Gives P 13 args.toArray (wmV args) := by
  unfold wmP at hp
  split at hp
  · rename_i h t
    have g := we_gives [.int .i64 h, .int .i64 t] trivial
    have e : weV [.int .i64 h, .int .i64 t] = wmV [.int .i64 h, .int .i64 t] := by
      show Value.tuple #[.agg #[.int .i64 (weI pA h t), .int .i64 (weI pB h t), .int .i64 (weI pC h t), .int .i64 (weI pD h t)], .int .i64 (weE h t)] = .tuple #[.agg #[.int .i64 (pA h t), .int .i64 (pB h t), .int .i64 (pC h t), .int .i64 (pD h t)], .int .i64 0]
      unfold weI weE
      rw [may_zero.2 hp]
      rfl
    rw [← e]
    exact g
  · exact hp.elim
noncomputable def cWeights' : Ctr P := ⟨13, wmP, wmV, wm_gives⟩
noncomputable def EL : Env P := ⟨⟨[cMay, cWakes, cPlace', cSpeed', cWeights'] ++ Rd.refC, []⟩, [], 20, []⟩
theorem beq_of {a b : Int} (h : a = b) : (a == b) = true := by rw [h]; exact beq_self_eq_true _
theorem bne_of {a b : Int} (h : a = b) : (a != b) = false := by rw [h]; simp
theorem he_no (x v y w h t : Int) : runF P EL 1 5 [.int .i64 x, .int .i64 v, .int .i64 y, .int .i64 w, .int .i64 h, .int .i64 t] (.b true :: []) = some (.bool true,
    [lmP [.int .i64 x, .int .i64 v, .int .i64 y, .int .i64 w, .int .i64 h, .int .i64 t], (!(lmB x v y w h t)) = true, wakesP []]) := by kernel_rfl
theorem he_bad (x v y w h t : Int) (b : (lmB x v y w h t) = false) : Gives P 5 #[.int .i64 x, .int .i64 v, .int .i64 y, .int .i64 w, .int .i64 h, .int .i64 t] (.bool true) :=
  gives_of_run mo (he_no x v y w h t) (ps_cons trivial (ps_cons (neg_t b) (ps_cons trivial ps_nil))) rfl
theorem May.t' {x v y w h t s : Int} (M : May x v y w h t) (h0 : 0 ≤ s) (h1 : s ≤ h) : May x v y w h s := ⟨M.x1, M.x2, M.y1, M.y2, M.v1, M.v2, M.w1, M.w2, M.h1, M.h2, h0, h1⟩
theorem May.back {x v y w h t : Int} (M : May x v y w h t) : May y (-w) x (-v) h (h - t) := by
  have := M.w1
  have := M.w2
  have := M.v1
  have := M.v2
  have := M.t1
  have := M.t2
  exact ⟨M.y1, M.y2, M.x1, M.x2, by omega, by omega, by omega, by omega, M.h1, M.h2, by omega, by omega⟩
theorem May.neg {x v y w h t : Int} (M : May x v y w h t) : May (-x) (-v) (-y) (-w) h t := by
  have := M.w1
  have := M.w2
  have := M.v1
  have := M.v2
  have := M.x1
  have := M.x2
  have := M.y1
  have := M.y2
  exact ⟨by omega, by omega, by omega, by omega, by omega, by omega, by omega, by omega, M.h1, M.h2, M.t1, M.t2⟩
theorem he_run (x v y w h t : Int) : runF P EL 1 5 [.int .i64 x, .int .i64 v, .int .i64 y, .int .i64 w, .int .i64 h, .int .i64 t] (.b false :: (.b true :: (.b true :: (.b true :: (.b true :: (lits 4 (.b true :: (.b true :: (.lit :: (.b true :: [])))))))))) =
  some (.bool true,
    [lmP [.int .i64 x, .int .i64 v, .int .i64 y, .int .i64 w, .int .i64 h, .int .i64 t],
     (!(lmB x v y w h t)) = false,
     pmP [.int .i64 x, .int .i64 v, .int .i64 y, .int .i64 w, .int .i64 h, .int .i64 0],
     smP [.int .i64 x, .int .i64 v, .int .i64 y, .int .i64 w, .int .i64 h, .int .i64 0],
     pmP [.int .i64 x, .int .i64 v, .int .i64 y, .int .i64 w, .int .i64 h, .int .i64 h],
     smP [.int .i64 x, .int .i64 v, .int .i64 y, .int .i64 w, .int .i64 h, .int .i64 h],
     pmP [.int .i64 x, .int .i64 v, .int .i64 y, .int .i64 w, .int .i64 h, .int .i64 t],
     smP [.int .i64 x, .int .i64 v, .int .i64 y, .int .i64 w, .int .i64 h, .int .i64 t],
     pmP [.int .i64 y, .int .i64 (IntKind.i64.wrap (0 - w)), .int .i64 x, .int .i64 (IntKind.i64.wrap (0 - v)), .int .i64 h, .int .i64 (IntKind.i64.wrap (h - t))],
     smP [.int .i64 y, .int .i64 (IntKind.i64.wrap (0 - w)), .int .i64 x, .int .i64 (IntKind.i64.wrap (0 - v)), .int .i64 h, .int .i64 (IntKind.i64.wrap (h - t))],
     pmP [.int .i64 (IntKind.i64.wrap (0 - x)), .int .i64 (IntKind.i64.wrap (0 - v)), .int .i64 (IntKind.i64.wrap (0 - y)), .int .i64 (IntKind.i64.wrap (0 - w)), .int .i64 h, .int .i64 t],
     (place x v y w h 0 == x) = true,
     (speed x v y w h 0 == v) = true,
     (place x v y w h h == y) = true,
     (speed x v y w h h == w) = true,
     (place x v y w h t == place y (IntKind.i64.wrap (0 - w)) x (IntKind.i64.wrap (0 - v)) h (IntKind.i64.wrap (h - t))) = true,
     (speed x v y w h t == IntKind.i64.wrap (0 - (speed y (IntKind.i64.wrap (0 - w)) x (IntKind.i64.wrap (0 - v)) h (IntKind.i64.wrap (h - t))))) = true,
     (place (IntKind.i64.wrap (0 - x)) (IntKind.i64.wrap (0 - v)) (IntKind.i64.wrap (0 - y)) (IntKind.i64.wrap (0 - w)) h t == IntKind.i64.wrap (0 - (place x v y w h t))) = true,
     wakesP []]) := by kernel_rfl
theorem he_leaf (x v y w h t : Int) (M : May x v y w h t) (q : lmB x v y w h t = true) : Gives P 5 #[.int .i64 x, .int .i64 v, .int .i64 y, .int .i64 w, .int .i64 h, .int .i64 t] (.bool true) := by
  have x1 := M.x1
  have x2 := M.x2
  have y1 := M.y1
  have y2 := M.y2
  have v1 := M.v1
  have v2 := M.v2
  have w1 := M.w1
  have w2 := M.w2
  have h1 := M.h1
  have h2 := M.h2
  have t1 := M.t1
  have t2 := M.t2
  have si := speed_in M.back
  have pi := place_in M
  have ev : IntKind.i64.wrap (0 - v) = -v := by rw [wr (by omega) (by omega)]; omega
  have ew : IntKind.i64.wrap (0 - w) = -w := by rw [wr (by omega) (by omega)]; omega
  have ex : IntKind.i64.wrap (0 - x) = -x := by rw [wr (by omega) (by omega)]; omega
  have ey : IntKind.i64.wrap (0 - y) = -y := by rw [wr (by omega) (by omega)]; omega
  have et : IntKind.i64.wrap (h - t) = h - t := wr (by omega) (by omega)
  have es : IntKind.i64.wrap (0 - (speed y (-w) x (-v) h (h - t))) = speed x v y w h t := by
    rw [speed_back h1 h2] at si ⊢
    rw [wr (by omega) (by omega)]; omega
  have ep : IntKind.i64.wrap (0 - (place x v y w h t)) = -place x v y w h t := by rw [wr (by omega) (by omega)]; omega
  have R := he_run x v y w h t
  refine gives_of_run mo R (ps_cons trivial (ps_cons (neg_f q) (ps_cons (M.t' (by omega) (by omega)) (ps_cons (M.t' (by omega) (by omega)) (ps_cons (M.t' (by omega) (by omega)) (ps_cons (M.t' (by omega) (by omega)) (ps_cons M (ps_cons M (ps_cons (by show May _ _ _ _ _ _; rw [ew, ev, et]; exact M.back) (ps_cons (by show May _ _ _ _ _ _; rw [ew, ev, et]; exact M.back) (ps_cons (by show May _ _ _ _ _ _; rw [ex, ev, ey, ew]; exact M.neg) (ps_cons (beq_of (place_0 h1 h2)) (ps_cons (beq_of (speed_0 h1 h2)) (ps_cons (beq_of (place_h h1 h2)) (ps_cons (beq_of (speed_h h1 h2)) (ps_cons (beq_of (by rw [ew, ev, et]; exact (place_back x v y w h t).symm)) (ps_cons (beq_of (by rw [ew, ev, et]; exact es.symm)) (ps_cons (beq_of (by rw [ex, ev, ey, ew, ep]; exact place_neg h1 h2)) (ps_cons trivial ps_nil))))))))))))))))))) ?_
  rfl
theorem HermiteEnds_all (x v y w h t : Int) (rx : I64 x) (rv : I64 v) (ry : I64 y) (rz : I64 w) : Gives P 5 #[.int .i64 x, .int .i64 v, .int .i64 y, .int .i64 w, .int .i64 h, .int .i64 t] (.bool true) := by
  cases q : lmB x v y w h t with
  | true => exact he_leaf x v y w h t (lm_may rx rv ry rz q) q
  | false => exact he_bad x v y w h t q
def en (x v h : Int) : Int := IntKind.i64.wrap (x + (IntKind.i64.wrap (h * v)))
def m8 (x y : Int) : Int := mx (mx (mx x (IntKind.i64.wrap (0 - x))) y) (IntKind.i64.wrap (0 - y))
theorem en_eq {x v y w h t s : Int} (M : May x v y w h t) (s0 : 0 ≤ s) (s1 : s ≤ h) : en x v s = x + s * v := by
  have x1 := M.x1
  have x2 := M.x2
  have h2 := M.h2
  have k := mulb (a := s) (b := v) (A := 4096) (B := 131072) (by omega) (by omega) M.v1 M.v2
  unfold en
  rw [wr (n := s * v) (by omega) (by omega), wr (by omega) (by omega)]
theorem May.line {x v y w h t e : Int} (M : May x v y w h t) (h1 : e ≥ -2097152) (h2 : e ≤ 2097152) : May x v e v h t := ⟨M.x1, M.x2, h1, h2, M.v1, M.v2, M.v1, M.v2, M.h1, M.h2, M.t1, M.t2⟩
theorem st_p {x v y w h t : Int} (M : May x v y w h t) : place x v (en x v h) v h t = en x v t := by
  rw [en_eq M (Int.le_trans (by decide) M.h1) (Int.le_refl _), en_eq M M.t1 M.t2]
  exact place_line M.h1 M.h2
theorem st_s {x v y w h t : Int} (M : May x v y w h t) : speed x v (en x v h) v h t = v := by
  rw [en_eq M (Int.le_trans (by decide) M.h1) (Int.le_refl _)]
  exact speed_line M.h1 M.h2
structure By (x v y w h t b : Int) : Prop where
  ex : IntKind.i64.wrap (x + b) = x + b
  ey : IntKind.i64.wrap (y + b) = y + b
  m : May (x + b) v (y + b) w h t
theorem by_ {x v y w h t b : Int} (M : May x v y w h t) (b1 : ¬ b < -1048576) (b2 : ¬ b > 1048576) (hm : ¬ m8 x y > 1048576) : By x v y w h t b := by
  have x1 := M.x1
  have x2 := M.x2
  have y1 := M.y1
  have y2 := M.y2
  have k : m8 x y ≤ 1048576 := by omega
  unfold m8 at k
  simp only [mx_le] at k
  rw [wr (n := 0 - x) (by omega) (by omega), wr (n := 0 - y) (by omega) (by omega)] at k
  exact ⟨wr (by omega) (by omega), wr (by omega) (by omega), ⟨by omega, by omega, by omega, by omega, M.v1, M.v2, M.w1, M.w2, M.h1, M.h2, M.t1, M.t2⟩⟩
theorem p_sumW {x v y w h t : Int} (M : May x v y w h t) : IntKind.i64.wrap (pA h t + (pC h t)) = IntKind.i64.wrap ((IntKind.i64.wrap (h * h)) * h) := by
  rw [p_sum]
  have K := wrs M.h1 M.h2 M.t1 M.t2
  have hc := cube M.h1 M.h2
  have e : IntKind.i64.wrap ((IntKind.i64.wrap (h * h)) * h) = h * h * h := K.H
  rw [e]
  exact wr (by omega) (by omega)
theorem hs0_run (x v y w h t b : Int) : runF P EL 1 6 [.int .i64 x, .int .i64 v, .int .i64 y, .int .i64 w, .int .i64 h, .int .i64 t, .int .i64 b] (.b false :: (.b true :: [])) =
  some (.bool true,
    [lmP [.int .i64 x, .int .i64 v, .int .i64 y, .int .i64 w, .int .i64 h, .int .i64 t],
     (!(lmB x v y w h t)) = false,
     (decide (b < -1048576)) = true,
     wakesP []]) := by kernel_rfl
theorem hs0_leaf (x v y w h t b : Int) (rx : I64 x) (rv : I64 v) (ry : I64 y) (rz : I64 w) (q0 : (lmB x v y w h t) = true) (q1 : (decide (b < -1048576)) = true) : Gives P 6 #[.int .i64 x, .int .i64 v, .int .i64 y, .int .i64 w, .int .i64 h, .int .i64 t, .int .i64 b] (.bool true) := by
  have _u := And.intro rx (And.intro rv (And.intro ry rz))
  have R := hs0_run x v y w h t b
  refine gives_of_run mo R (ps_cons trivial (ps_cons (neg_f q0) (ps_cons q1 (ps_cons trivial ps_nil)))) ?_
  rfl
theorem hs1_run (x v y w h t b : Int) : runF P EL 1 6 [.int .i64 x, .int .i64 v, .int .i64 y, .int .i64 w, .int .i64 h, .int .i64 t, .int .i64 b] (.b true :: []) =
  some (.bool true,
    [lmP [.int .i64 x, .int .i64 v, .int .i64 y, .int .i64 w, .int .i64 h, .int .i64 t],
     (!(lmB x v y w h t)) = true,
     wakesP []]) := by kernel_rfl
theorem hs1_leaf (x v y w h t b : Int) (rx : I64 x) (rv : I64 v) (ry : I64 y) (rz : I64 w) (q0 : (lmB x v y w h t) = false) : Gives P 6 #[.int .i64 x, .int .i64 v, .int .i64 y, .int .i64 w, .int .i64 h, .int .i64 t, .int .i64 b] (.bool true) := by
  have _u := And.intro rx (And.intro rv (And.intro ry rz))
  have R := hs1_run x v y w h t b
  refine gives_of_run mo R (ps_cons trivial (ps_cons (neg_t q0) (ps_cons trivial ps_nil))) ?_
  rfl
theorem hs2_run (x v y w h t b : Int) : runF P EL 1 6 [.int .i64 x, .int .i64 v, .int .i64 y, .int .i64 w, .int .i64 h, .int .i64 t, .int .i64 b] (.b false :: (.b false :: (.b true :: []))) =
  some (.bool true,
    [lmP [.int .i64 x, .int .i64 v, .int .i64 y, .int .i64 w, .int .i64 h, .int .i64 t],
     (!(lmB x v y w h t)) = false,
     (decide (b < -1048576)) = false,
     (decide (b > 1048576)) = true,
     wakesP []]) := by kernel_rfl
theorem hs2_leaf (x v y w h t b : Int) (rx : I64 x) (rv : I64 v) (ry : I64 y) (rz : I64 w) (q0 : (lmB x v y w h t) = true) (q1 : (decide (b < -1048576)) = false) (q2 : (decide (b > 1048576)) = true) : Gives P 6 #[.int .i64 x, .int .i64 v, .int .i64 y, .int .i64 w, .int .i64 h, .int .i64 t, .int .i64 b] (.bool true) := by
  have _u := And.intro rx (And.intro rv (And.intro ry rz))
  have R := hs2_run x v y w h t b
  refine gives_of_run mo R (ps_cons trivial (ps_cons (neg_f q0) (ps_cons q1 (ps_cons q2 (ps_cons trivial ps_nil))))) ?_
  rfl
theorem hs3_run (x v y w h t b : Int) : runF P EL 1 6 [.int .i64 x, .int .i64 v, .int .i64 y, .int .i64 w, .int .i64 h, .int .i64 t, .int .i64 b] (.b false :: (.b false :: (.b false :: (.b true :: (.b true :: (.lit :: (.lit :: (.b false :: (.b false :: (.b true :: [])))))))))) =
  some (.bool true,
    [lmP [.int .i64 x, .int .i64 v, .int .i64 y, .int .i64 w, .int .i64 h, .int .i64 t],
     (!(lmB x v y w h t)) = false,
     (decide (b < -1048576)) = false,
     (decide (b > 1048576)) = false,
     (decide (en x v h ≥ -2097152)) = true,
     (decide (en x v h ≤ 2097152)) = true,
     pmP [.int .i64 x, .int .i64 v, .int .i64 (en x v h), .int .i64 v, .int .i64 h, .int .i64 t],
     smP [.int .i64 x, .int .i64 v, .int .i64 (en x v h), .int .i64 v, .int .i64 h, .int .i64 t],
     (place x v (en x v h) v h t != en x v t) = false,
     (speed x v (en x v h) v h t != v) = false,
     (decide (m8 x y > 1048576)) = true,
     wakesP []]) := by kernel_rfl
theorem hs3_leaf (x v y w h t b : Int) (rx : I64 x) (rv : I64 v) (ry : I64 y) (rz : I64 w) (q0 : (lmB x v y w h t) = true) (q1 : (decide (b < -1048576)) = false) (q2 : (decide (b > 1048576)) = false) (q3 : (decide (en x v h ≥ -2097152)) = true) (q4 : (decide (en x v h ≤ 2097152)) = true) (q5 : (place x v (en x v h) v h t != en x v t) = false) (q6 : (speed x v (en x v h) v h t != v) = false) (q7 : (decide (m8 x y > 1048576)) = true) : Gives P 6 #[.int .i64 x, .int .i64 v, .int .i64 y, .int .i64 w, .int .i64 h, .int .i64 t, .int .i64 b] (.bool true) := by
  have _u := And.intro rx (And.intro rv (And.intro ry rz))
  have R := hs3_run x v y w h t b
  refine gives_of_run mo R (ps_cons trivial (ps_cons (neg_f q0) (ps_cons q1 (ps_cons q2 (ps_cons q3 (ps_cons q4 (ps_cons ((lm_may rx rv ry rz q0).line (of_decide_eq_true q3) (of_decide_eq_true q4)) (ps_cons ((lm_may rx rv ry rz q0).line (of_decide_eq_true q3) (of_decide_eq_true q4)) (ps_cons q5 (ps_cons q6 (ps_cons q7 (ps_cons trivial ps_nil)))))))))))) ?_
  rfl
theorem hs4_run (x v y w h t b : Int) : runF P EL 1 6 [.int .i64 x, .int .i64 v, .int .i64 y, .int .i64 w, .int .i64 h, .int .i64 t, .int .i64 b] (.b false :: (.b false :: (.b false :: (.b false :: (.lit :: (.b true :: [])))))) =
  some (.bool true,
    [lmP [.int .i64 x, .int .i64 v, .int .i64 y, .int .i64 w, .int .i64 h, .int .i64 t],
     (!(lmB x v y w h t)) = false,
     (decide (b < -1048576)) = false,
     (decide (b > 1048576)) = false,
     (decide (en x v h ≥ -2097152)) = false,
     (decide (m8 x y > 1048576)) = true,
     wakesP []]) := by kernel_rfl
theorem hs4_leaf (x v y w h t b : Int) (rx : I64 x) (rv : I64 v) (ry : I64 y) (rz : I64 w) (q0 : (lmB x v y w h t) = true) (q1 : (decide (b < -1048576)) = false) (q2 : (decide (b > 1048576)) = false) (q3 : (decide (en x v h ≥ -2097152)) = false) (q4 : (decide (m8 x y > 1048576)) = true) : Gives P 6 #[.int .i64 x, .int .i64 v, .int .i64 y, .int .i64 w, .int .i64 h, .int .i64 t, .int .i64 b] (.bool true) := by
  have _u := And.intro rx (And.intro rv (And.intro ry rz))
  have R := hs4_run x v y w h t b
  refine gives_of_run mo R (ps_cons trivial (ps_cons (neg_f q0) (ps_cons q1 (ps_cons q2 (ps_cons q3 (ps_cons q4 (ps_cons trivial ps_nil))))))) ?_
  rfl
theorem hs5_run (x v y w h t b : Int) : runF P EL 1 6 [.int .i64 x, .int .i64 v, .int .i64 y, .int .i64 w, .int .i64 h, .int .i64 t, .int .i64 b] (.b false :: (.b false :: (.b false :: (.b false :: (.lit :: (.b false :: (.lit :: (.lit :: (.lit :: (.b true :: (.b true :: []))))))))))) =
  some (.bool true,
    [lmP [.int .i64 x, .int .i64 v, .int .i64 y, .int .i64 w, .int .i64 h, .int .i64 t],
     (!(lmB x v y w h t)) = false,
     (decide (b < -1048576)) = false,
     (decide (b > 1048576)) = false,
     (decide (en x v h ≥ -2097152)) = false,
     (decide (m8 x y > 1048576)) = false,
     wmP [.int .i64 h, .int .i64 t],
     smP [.int .i64 x, .int .i64 v, .int .i64 y, .int .i64 w, .int .i64 h, .int .i64 t],
     smP [.int .i64 (IntKind.i64.wrap (x + b)), .int .i64 v, .int .i64 (IntKind.i64.wrap (y + b)), .int .i64 w, .int .i64 h, .int .i64 t],
     (speed x v y w h t == speed (IntKind.i64.wrap (x + b)) v (IntKind.i64.wrap (y + b)) w h t) = true,
     (IntKind.i64.wrap (pA h t + (pC h t)) == IntKind.i64.wrap ((IntKind.i64.wrap (h * h)) * h)) = true,
     wakesP []]) := by kernel_rfl
theorem hs5_leaf (x v y w h t b : Int) (rx : I64 x) (rv : I64 v) (ry : I64 y) (rz : I64 w) (q0 : (lmB x v y w h t) = true) (q1 : (decide (b < -1048576)) = false) (q2 : (decide (b > 1048576)) = false) (q3 : (decide (en x v h ≥ -2097152)) = false) (q4 : (decide (m8 x y > 1048576)) = false) (q5 : (speed x v y w h t == speed (IntKind.i64.wrap (x + b)) v (IntKind.i64.wrap (y + b)) w h t) = true) (q6 : (IntKind.i64.wrap (pA h t + (pC h t)) == IntKind.i64.wrap ((IntKind.i64.wrap (h * h)) * h)) = true) : Gives P 6 #[.int .i64 x, .int .i64 v, .int .i64 y, .int .i64 w, .int .i64 h, .int .i64 t, .int .i64 b] (.bool true) := by
  have _u := And.intro rx (And.intro rv (And.intro ry rz))
  have R := hs5_run x v y w h t b
  refine gives_of_run mo R (ps_cons trivial (ps_cons (neg_f q0) (ps_cons q1 (ps_cons q2 (ps_cons q3 (ps_cons q4 (ps_cons ⟨((lm_may rx rv ry rz q0)).h1, ((lm_may rx rv ry rz q0)).h2, ((lm_may rx rv ry rz q0)).t1, ((lm_may rx rv ry rz q0)).t2⟩ (ps_cons (lm_may rx rv ry rz q0) (ps_cons (by have B := (by_ (lm_may rx rv ry rz q0) (of_decide_eq_false q1) (of_decide_eq_false q2) (of_decide_eq_false q4)); show May _ _ _ _ _ _; rw [B.ex, B.ey]; exact B.m) (ps_cons q5 (ps_cons q6 (ps_cons trivial ps_nil)))))))))))) ?_
  rfl
theorem hs6_run (x v y w h t b : Int) : runF P EL 1 6 [.int .i64 x, .int .i64 v, .int .i64 y, .int .i64 w, .int .i64 h, .int .i64 t, .int .i64 b] (.b false :: (.b false :: (.b false :: (.b true :: (.b false :: (.b true :: [])))))) =
  some (.bool true,
    [lmP [.int .i64 x, .int .i64 v, .int .i64 y, .int .i64 w, .int .i64 h, .int .i64 t],
     (!(lmB x v y w h t)) = false,
     (decide (b < -1048576)) = false,
     (decide (b > 1048576)) = false,
     (decide (en x v h ≥ -2097152)) = true,
     (decide (en x v h ≤ 2097152)) = false,
     (decide (m8 x y > 1048576)) = true,
     wakesP []]) := by kernel_rfl
theorem hs6_leaf (x v y w h t b : Int) (rx : I64 x) (rv : I64 v) (ry : I64 y) (rz : I64 w) (q0 : (lmB x v y w h t) = true) (q1 : (decide (b < -1048576)) = false) (q2 : (decide (b > 1048576)) = false) (q3 : (decide (en x v h ≥ -2097152)) = true) (q4 : (decide (en x v h ≤ 2097152)) = false) (q5 : (decide (m8 x y > 1048576)) = true) : Gives P 6 #[.int .i64 x, .int .i64 v, .int .i64 y, .int .i64 w, .int .i64 h, .int .i64 t, .int .i64 b] (.bool true) := by
  have _u := And.intro rx (And.intro rv (And.intro ry rz))
  have R := hs6_run x v y w h t b
  refine gives_of_run mo R (ps_cons trivial (ps_cons (neg_f q0) (ps_cons q1 (ps_cons q2 (ps_cons q3 (ps_cons q4 (ps_cons q5 (ps_cons trivial ps_nil)))))))) ?_
  rfl
theorem hs7_run (x v y w h t b : Int) : runF P EL 1 6 [.int .i64 x, .int .i64 v, .int .i64 y, .int .i64 w, .int .i64 h, .int .i64 t, .int .i64 b] (.b false :: (.b false :: (.b false :: (.b true :: (.b false :: (.b false :: (.lit :: (.lit :: (.lit :: (.b true :: (.b true :: []))))))))))) =
  some (.bool true,
    [lmP [.int .i64 x, .int .i64 v, .int .i64 y, .int .i64 w, .int .i64 h, .int .i64 t],
     (!(lmB x v y w h t)) = false,
     (decide (b < -1048576)) = false,
     (decide (b > 1048576)) = false,
     (decide (en x v h ≥ -2097152)) = true,
     (decide (en x v h ≤ 2097152)) = false,
     (decide (m8 x y > 1048576)) = false,
     wmP [.int .i64 h, .int .i64 t],
     smP [.int .i64 x, .int .i64 v, .int .i64 y, .int .i64 w, .int .i64 h, .int .i64 t],
     smP [.int .i64 (IntKind.i64.wrap (x + b)), .int .i64 v, .int .i64 (IntKind.i64.wrap (y + b)), .int .i64 w, .int .i64 h, .int .i64 t],
     (speed x v y w h t == speed (IntKind.i64.wrap (x + b)) v (IntKind.i64.wrap (y + b)) w h t) = true,
     (IntKind.i64.wrap (pA h t + (pC h t)) == IntKind.i64.wrap ((IntKind.i64.wrap (h * h)) * h)) = true,
     wakesP []]) := by kernel_rfl
theorem hs7_leaf (x v y w h t b : Int) (rx : I64 x) (rv : I64 v) (ry : I64 y) (rz : I64 w) (q0 : (lmB x v y w h t) = true) (q1 : (decide (b < -1048576)) = false) (q2 : (decide (b > 1048576)) = false) (q3 : (decide (en x v h ≥ -2097152)) = true) (q4 : (decide (en x v h ≤ 2097152)) = false) (q5 : (decide (m8 x y > 1048576)) = false) (q6 : (speed x v y w h t == speed (IntKind.i64.wrap (x + b)) v (IntKind.i64.wrap (y + b)) w h t) = true) (q7 : (IntKind.i64.wrap (pA h t + (pC h t)) == IntKind.i64.wrap ((IntKind.i64.wrap (h * h)) * h)) = true) : Gives P 6 #[.int .i64 x, .int .i64 v, .int .i64 y, .int .i64 w, .int .i64 h, .int .i64 t, .int .i64 b] (.bool true) := by
  have _u := And.intro rx (And.intro rv (And.intro ry rz))
  have R := hs7_run x v y w h t b
  refine gives_of_run mo R (ps_cons trivial (ps_cons (neg_f q0) (ps_cons q1 (ps_cons q2 (ps_cons q3 (ps_cons q4 (ps_cons q5 (ps_cons ⟨((lm_may rx rv ry rz q0)).h1, ((lm_may rx rv ry rz q0)).h2, ((lm_may rx rv ry rz q0)).t1, ((lm_may rx rv ry rz q0)).t2⟩ (ps_cons (lm_may rx rv ry rz q0) (ps_cons (by have B := (by_ (lm_may rx rv ry rz q0) (of_decide_eq_false q1) (of_decide_eq_false q2) (of_decide_eq_false q5)); show May _ _ _ _ _ _; rw [B.ex, B.ey]; exact B.m) (ps_cons q6 (ps_cons q7 (ps_cons trivial ps_nil))))))))))))) ?_
  rfl
theorem hs8_run (x v y w h t b : Int) : runF P EL 1 6 [.int .i64 x, .int .i64 v, .int .i64 y, .int .i64 w, .int .i64 h, .int .i64 t, .int .i64 b] (.b false :: (.b false :: (.b false :: (.b true :: (.b true :: (.lit :: (.lit :: (.b false :: (.b false :: (.b false :: (.lit :: (.lit :: (.lit :: (.b true :: (.b true :: []))))))))))))))) =
  some (.bool true,
    [lmP [.int .i64 x, .int .i64 v, .int .i64 y, .int .i64 w, .int .i64 h, .int .i64 t],
     (!(lmB x v y w h t)) = false,
     (decide (b < -1048576)) = false,
     (decide (b > 1048576)) = false,
     (decide (en x v h ≥ -2097152)) = true,
     (decide (en x v h ≤ 2097152)) = true,
     pmP [.int .i64 x, .int .i64 v, .int .i64 (en x v h), .int .i64 v, .int .i64 h, .int .i64 t],
     smP [.int .i64 x, .int .i64 v, .int .i64 (en x v h), .int .i64 v, .int .i64 h, .int .i64 t],
     (place x v (en x v h) v h t != en x v t) = false,
     (speed x v (en x v h) v h t != v) = false,
     (decide (m8 x y > 1048576)) = false,
     wmP [.int .i64 h, .int .i64 t],
     smP [.int .i64 x, .int .i64 v, .int .i64 y, .int .i64 w, .int .i64 h, .int .i64 t],
     smP [.int .i64 (IntKind.i64.wrap (x + b)), .int .i64 v, .int .i64 (IntKind.i64.wrap (y + b)), .int .i64 w, .int .i64 h, .int .i64 t],
     (speed x v y w h t == speed (IntKind.i64.wrap (x + b)) v (IntKind.i64.wrap (y + b)) w h t) = true,
     (IntKind.i64.wrap (pA h t + (pC h t)) == IntKind.i64.wrap ((IntKind.i64.wrap (h * h)) * h)) = true,
     wakesP []]) := by kernel_rfl
theorem hs8_leaf (x v y w h t b : Int) (rx : I64 x) (rv : I64 v) (ry : I64 y) (rz : I64 w) (q0 : (lmB x v y w h t) = true) (q1 : (decide (b < -1048576)) = false) (q2 : (decide (b > 1048576)) = false) (q3 : (decide (en x v h ≥ -2097152)) = true) (q4 : (decide (en x v h ≤ 2097152)) = true) (q5 : (place x v (en x v h) v h t != en x v t) = false) (q6 : (speed x v (en x v h) v h t != v) = false) (q7 : (decide (m8 x y > 1048576)) = false) (q8 : (speed x v y w h t == speed (IntKind.i64.wrap (x + b)) v (IntKind.i64.wrap (y + b)) w h t) = true) (q9 : (IntKind.i64.wrap (pA h t + (pC h t)) == IntKind.i64.wrap ((IntKind.i64.wrap (h * h)) * h)) = true) : Gives P 6 #[.int .i64 x, .int .i64 v, .int .i64 y, .int .i64 w, .int .i64 h, .int .i64 t, .int .i64 b] (.bool true) := by
  have _u := And.intro rx (And.intro rv (And.intro ry rz))
  have R := hs8_run x v y w h t b
  refine gives_of_run mo R (ps_cons trivial (ps_cons (neg_f q0) (ps_cons q1 (ps_cons q2 (ps_cons q3 (ps_cons q4 (ps_cons ((lm_may rx rv ry rz q0).line (of_decide_eq_true q3) (of_decide_eq_true q4)) (ps_cons ((lm_may rx rv ry rz q0).line (of_decide_eq_true q3) (of_decide_eq_true q4)) (ps_cons q5 (ps_cons q6 (ps_cons q7 (ps_cons ⟨((lm_may rx rv ry rz q0)).h1, ((lm_may rx rv ry rz q0)).h2, ((lm_may rx rv ry rz q0)).t1, ((lm_may rx rv ry rz q0)).t2⟩ (ps_cons (lm_may rx rv ry rz q0) (ps_cons (by have B := (by_ (lm_may rx rv ry rz q0) (of_decide_eq_false q1) (of_decide_eq_false q2) (of_decide_eq_false q7)); show May _ _ _ _ _ _; rw [B.ex, B.ey]; exact B.m) (ps_cons q8 (ps_cons q9 (ps_cons trivial ps_nil))))))))))))))))) ?_
  rfl
theorem HermiteStraight_all (x v y w h t b : Int) (rx : I64 x) (rv : I64 v) (ry : I64 y) (rz : I64 w) : Gives P 6 #[.int .i64 x, .int .i64 v, .int .i64 y, .int .i64 w, .int .i64 h, .int .i64 t, .int .i64 b] (.bool true) := by
  cases q0 : (lmB x v y w h t) with
  | true =>
    cases q1 : (decide (b < -1048576)) with
    | true =>
      exact hs0_leaf x v y w h t b rx rv ry rz q0 q1
    | false =>
      cases q2 : (decide (b > 1048576)) with
      | true =>
        exact hs2_leaf x v y w h t b rx rv ry rz q0 q1 q2
      | false =>
        cases q3 : (decide (en x v h ≥ -2097152)) with
        | true =>
          cases q4 : (decide (en x v h ≤ 2097152)) with
          | true =>
            have q5 : (place x v (en x v h) v h t != en x v t) = false := (bne_of (st_p (lm_may rx rv ry rz q0)))
            have q6 : (speed x v (en x v h) v h t != v) = false := (bne_of (st_s (lm_may rx rv ry rz q0)))
            cases q7 : (decide (m8 x y > 1048576)) with
            | true =>
              exact hs3_leaf x v y w h t b rx rv ry rz q0 q1 q2 q3 q4 q5 q6 q7
            | false =>
              have q8 : (speed x v y w h t == speed (IntKind.i64.wrap (x + b)) v (IntKind.i64.wrap (y + b)) w h t) = true := (beq_of (by have B := (by_ (lm_may rx rv ry rz q0) (of_decide_eq_false q1) (of_decide_eq_false q2) (of_decide_eq_false q7)); rw [B.ex, B.ey]; exact (speed_by x v y w h t b).symm))
              have q9 : (IntKind.i64.wrap (pA h t + (pC h t)) == IntKind.i64.wrap ((IntKind.i64.wrap (h * h)) * h)) = true := (beq_of (p_sumW (lm_may rx rv ry rz q0)))
              exact hs8_leaf x v y w h t b rx rv ry rz q0 q1 q2 q3 q4 q5 q6 q7 q8 q9
          | false =>
            cases q5 : (decide (m8 x y > 1048576)) with
            | true =>
              exact hs6_leaf x v y w h t b rx rv ry rz q0 q1 q2 q3 q4 q5
            | false =>
              have q6 : (speed x v y w h t == speed (IntKind.i64.wrap (x + b)) v (IntKind.i64.wrap (y + b)) w h t) = true := (beq_of (by have B := (by_ (lm_may rx rv ry rz q0) (of_decide_eq_false q1) (of_decide_eq_false q2) (of_decide_eq_false q5)); rw [B.ex, B.ey]; exact (speed_by x v y w h t b).symm))
              have q7 : (IntKind.i64.wrap (pA h t + (pC h t)) == IntKind.i64.wrap ((IntKind.i64.wrap (h * h)) * h)) = true := (beq_of (p_sumW (lm_may rx rv ry rz q0)))
              exact hs7_leaf x v y w h t b rx rv ry rz q0 q1 q2 q3 q4 q5 q6 q7
        | false =>
          cases q4 : (decide (m8 x y > 1048576)) with
          | true =>
            exact hs4_leaf x v y w h t b rx rv ry rz q0 q1 q2 q3 q4
          | false =>
            have q5 : (speed x v y w h t == speed (IntKind.i64.wrap (x + b)) v (IntKind.i64.wrap (y + b)) w h t) = true := (beq_of (by have B := (by_ (lm_may rx rv ry rz q0) (of_decide_eq_false q1) (of_decide_eq_false q2) (of_decide_eq_false q4)); rw [B.ex, B.ey]; exact (speed_by x v y w h t b).symm))
            have q6 : (IntKind.i64.wrap (pA h t + (pC h t)) == IntKind.i64.wrap ((IntKind.i64.wrap (h * h)) * h)) = true := (beq_of (p_sumW (lm_may rx rv ry rz q0)))
            exact hs5_leaf x v y w h t b rx rv ry rz q0 q1 q2 q3 q4 q5 q6
  | false =>
    exact hs1_leaf x v y w h t b rx rv ry rz q0
theorem hn_no (x v y w h t : Int) : runF P EL 1 4 [.int .i64 x, .int .i64 v, .int .i64 y, .int .i64 w, .int .i64 h, .int .i64 t] (.b true :: []) = some (.bool true,
    [lmP [.int .i64 x, .int .i64 v, .int .i64 y, .int .i64 w, .int .i64 h, .int .i64 t], (!(lmB x v y w h t)) = true, wakesP []]) := by kernel_rfl
theorem hn_bad (x v y w h t : Int) (b : (lmB x v y w h t) = false) : Gives P 4 #[.int .i64 x, .int .i64 v, .int .i64 y, .int .i64 w, .int .i64 h, .int .i64 t] (.bool true) :=
  gives_of_run mo (hn_no x v y w h t) (ps_cons trivial (ps_cons (neg_t b) (ps_cons trivial ps_nil))) rfl
def lA (h t : Int) : Int := IntKind.i64.wrap ((IntKind.i64.wrap ((IntKind.i64.wrap (h - t)) * (IntKind.i64.wrap (h - t)))) * (IntKind.i64.wrap (h + (IntKind.i64.wrap (2 * t)))))
def lC (h t : Int) : Int := IntKind.i64.wrap ((IntKind.i64.wrap (t * t)) * (IntKind.i64.wrap (h + (IntKind.i64.wrap (2 * (IntKind.i64.wrap (h - t)))))))
def lo (x v y w h t : Int) : Int := IntKind.i64.wrap (IntKind.i64.wrap (2 * (place x v y w h t)) - 1)
def hi (x v y w h t : Int) : Int := IntKind.i64.wrap (IntKind.i64.wrap (2 * (place x v y w h t)) + 1)
def kA (h t : Int) : Int := IntKind.i64.wrap (2 * (lA h t))
def kB (h t : Int) : Int := IntKind.i64.wrap (2 * (wB h t))
def kC (h t : Int) : Int := IntKind.i64.wrap (2 * (lC h t))
def kD (h t : Int) : Int := IntKind.i64.wrap (2 * (wD h t))
structure Kw (x v y w h t : Int) : Prop where
  a : lA h t = pA h t
  c : lC h t = pC h t
  A : kA h t = 2 * pA h t
  B : kB h t = 2 * pB h t
  C : kC h t = 2 * pC h t
  D : kD h t = 2 * pD h t
  rA : I64 (2 * pA h t)
  rB : I64 (2 * pB h t)
  rC : I64 (2 * pC h t)
  rD : I64 (2 * pD h t)
  l : lo x v y w h t = 2 * place x v y w h t - 1
  u : hi x v y w h t = 2 * place x v y w h t + 1
  rl : I64 (2 * place x v y w h t - 1)
  ru : I64 (2 * place x v y w h t + 1)
theorem kw {x v y w h t : Int} (M : May x v y w h t) : Kw x v y w h t := by
  have h1 := M.h1
  have h2 := M.h2
  have t1 := M.t1
  have t2 := M.t2
  have K := wrs h1 h2 t1 t2
  have hc := cube h1 h2
  have f := fac h1 h2 t1 t2
  have pi := place_in M
  have a0 := f.a0
  have a1 := f.a1
  have b0 := f.b0
  have b1 := f.b1
  have c0 := f.c0
  have c1 := f.c1
  have d0 := f.d0
  have d1 := f.d1
  have pl := p_law h t
  have ll := mulb (a := h - t) (b := h - t) (A := 4096) (B := 4096) (by omega) (by omega) (by omega) (by omega)
  have tt := mulb (a := t) (b := t) (A := 4096) (B := 4096) (by omega) (by omega) (by omega) (by omega)
  have ea : lA h t = pA h t := by
    rw [← pl.1] at a0 a1 ⊢
    unfold lA
    rw [wr (n := h - t) (by omega) (by omega), wr (n := (h - t) * (h - t)) (by omega) (by omega), wr (n := 2 * t) (by omega) (by omega), wr (n := h + 2 * t) (by omega) (by omega), wr (by omega) (by omega)]
  have ec : lC h t = pC h t := by
    rw [← pl.2.2.1] at c0 c1 ⊢
    unfold lC
    rw [wr (n := h - t) (by omega) (by omega), wr (n := t * t) (by omega) (by omega), wr (n := 2 * (h - t)) (by omega) (by omega), wr (n := h + 2 * (h - t)) (by omega) (by omega), wr (by omega) (by omega)]
  refine ⟨ea, ec, ?_, ?_, ?_, ?_, by unfold I64; omega, by unfold I64; omega, by unfold I64; omega, by unfold I64; omega, ?_, ?_, by unfold I64; omega, by unfold I64; omega⟩
  · unfold kA; rw [ea]; exact wr (by omega) (by omega)
  · unfold kB; rw [K.B]; exact wr (by omega) (by omega)
  · unfold kC; rw [ec]; exact wr (by omega) (by omega)
  · unfold kD; rw [K.D]; exact wr (by omega) (by omega)
  · unfold lo; rw [wr (n := 2 * place x v y w h t) (by omega) (by omega)]; exact wr (by omega) (by omega)
  · unfold hi; rw [wr (n := 2 * place x v y w h t) (by omega) (by omega)]; exact wr (by omega) (by omega)
theorem hn_run (x v y w h t : Int) : runF P EL 1 4 [.int .i64 x, .int .i64 v, .int .i64 y, .int .i64 w, .int .i64 h, .int .i64 t] (.b false :: (.lit :: (.b false :: (.b false :: (lits 15 (.b true :: (.b true :: (.b true :: [])))))))) =
  some (.bool true,
    [lmP [.int .i64 x, .int .i64 v, .int .i64 y, .int .i64 w, .int .i64 h, .int .i64 t],
     (!(lmB x v y w h t)) = false,
     pmP [.int .i64 x, .int .i64 v, .int .i64 y, .int .i64 w, .int .i64 h, .int .i64 t],
     (decide (place x v y w h t > 1099511627776)) = false,
     (decide (place x v y w h t < -1099511627776)) = false,
     wmP [.int .i64 h, .int .i64 t],
     ofP [.int .i64 (kA h t)],
     ofP [.int .i64 x],
     P2 [W (kA h t), W x],
     P2 [W 0, W (tI (W (kA h t)) * tI (W x))],
     ofP [.int .i64 (kB h t)],
     ofP [.int .i64 v],
     P2 [W (kB h t), W v],
     P2 [W (tI (W 0) + tI (W (tI (W (kA h t)) * tI (W x)))), W (tI (W (kB h t)) * tI (W v))],
     ofP [.int .i64 (kC h t)],
     ofP [.int .i64 y],
     P2 [W (kC h t), W y],
     P2 [W (tI (W (tI (W 0) + tI (W (tI (W (kA h t)) * tI (W x))))) + tI (W (tI (W (kB h t)) * tI (W v)))), W (tI (W (kC h t)) * tI (W y))],
     ofP [.int .i64 (kD h t)],
     ofP [.int .i64 w],
     P2 [W (kD h t), W w],
     P2 [W (tI (W (tI (W (tI (W 0) + tI (W (tI (W (kA h t)) * tI (W x))))) + tI (W (tI (W (kB h t)) * tI (W v))))) + tI (W (tI (W (kC h t)) * tI (W y)))), W (tI (W (kD h t)) * tI (W w))],
     ofP [.int .i64 (wH h)],
     ofP [.int .i64 (lo x v y w h t)],
     P2 [W (lo x v y w h t), W (wH h)],
     ofP [.int .i64 (hi x v y w h t)],
     P2 [W (hi x v y w h t), W (wH h)],
     ((pA h t == lA h t) && ((pB h t == wB h t) && ((pC h t == lC h t) && (pD h t == wD h t)))) = true,
     P2 [W (tI (W (lo x v y w h t)) * tI (W (wH h))), W (tI (W (tI (W (tI (W (tI (W 0) + tI (W (tI (W (kA h t)) * tI (W x))))) + tI (W (tI (W (kB h t)) * tI (W v))))) + tI (W (tI (W (kC h t)) * tI (W y))))) + tI (W (tI (W (kD h t)) * tI (W w))))],
     (decide (cmp3 (tI (W (tI (W (lo x v y w h t)) * tI (W (wH h))))) (tI (W (tI (W (tI (W (tI (W (tI (W 0) + tI (W (tI (W (kA h t)) * tI (W x))))) + tI (W (tI (W (kB h t)) * tI (W v))))) + tI (W (tI (W (kC h t)) * tI (W y))))) + tI (W (tI (W (kD h t)) * tI (W w)))))) ≤ 0)) = true,
     P2 [W (tI (W (tI (W (tI (W (tI (W 0) + tI (W (tI (W (kA h t)) * tI (W x))))) + tI (W (tI (W (kB h t)) * tI (W v))))) + tI (W (tI (W (kC h t)) * tI (W y))))) + tI (W (tI (W (kD h t)) * tI (W w)))), W (tI (W (hi x v y w h t)) * tI (W (wH h)))],
     (decide (cmp3 (tI (W (tI (W (tI (W (tI (W (tI (W 0) + tI (W (tI (W (kA h t)) * tI (W x))))) + tI (W (tI (W (kB h t)) * tI (W v))))) + tI (W (tI (W (kC h t)) * tI (W y))))) + tI (W (tI (W (kD h t)) * tI (W w)))))) (tI (W (tI (W (hi x v y w h t)) * tI (W (wH h))))) ≤ 0)) = true,
     wakesP []]) := by kernel_rfl
theorem hn_leaf (x v y w h t : Int) (M : May x v y w h t) (q : lmB x v y w h t = true) : Gives P 4 #[.int .i64 x, .int .i64 v, .int .i64 y, .int .i64 w, .int .i64 h, .int .i64 t] (.bool true) := by
  have K := wrs M.h1 M.h2 M.t1 M.t2
  have k := kw M
  have rx : I64 x := by have := M.x1; have := M.x2; unfold I64; omega
  have rv : I64 v := by have := M.v1; have := M.v2; unfold I64; omega
  have ry : I64 y := by have := M.y1; have := M.y2; unfold I64; omega
  have rw' : I64 w := by have := M.w1; have := M.w2; unfold I64; omega
  have hc := cube M.h1 M.h2
  have rH : I64 (h * h * h) := by unfold I64; omega
  have rH' : I64 (wH h) := by rw [K.H]; exact rH
  have U := su (D := h * h * h) k.rA k.rB k.rC k.rD rx rv ry rw' hc
  have pi := place_in M
  have n2 := nq_two (a := pS x v y w h t) (b := h * h * h) (by omega)
  have z : 0 + 2 * pA h t * x + 2 * pB h t * v + 2 * pC h t * y + 2 * pD h t * w = 2 * pS x v y w h t := by unfold pS; grind
  have il := mul64_in k.rl rH
  have iu := mul64_in k.ru rH
  have e0 : tI (W (kA h t)) = 2 * pA h t := (tI_of k.A (inR64 k.rA))
  have e1 : tI (W x) = x := tI_in (inR64 rx)
  have e2 : tI (W 0) = 0 := tI_in inR_0
  have e3 : tI (W ((2 * pA h t) * x)) = (2 * pA h t) * x := tI_in U.p1
  have e4 : tI (W (kB h t)) = 2 * pB h t := (tI_of k.B (inR64 k.rB))
  have e5 : tI (W v) = v := tI_in (inR64 rv)
  have e6 : tI (W (0 + ((2 * pA h t) * x))) = 0 + ((2 * pA h t) * x) := tI_in U.s1
  have e7 : tI (W ((2 * pB h t) * v)) = (2 * pB h t) * v := tI_in U.p2
  have e8 : tI (W (kC h t)) = 2 * pC h t := (tI_of k.C (inR64 k.rC))
  have e9 : tI (W y) = y := tI_in (inR64 ry)
  have e10 : tI (W ((0 + ((2 * pA h t) * x)) + ((2 * pB h t) * v))) = (0 + ((2 * pA h t) * x)) + ((2 * pB h t) * v) := tI_in U.s2
  have e11 : tI (W ((2 * pC h t) * y)) = (2 * pC h t) * y := tI_in U.p3
  have e12 : tI (W (kD h t)) = 2 * pD h t := (tI_of k.D (inR64 k.rD))
  have e13 : tI (W w) = w := tI_in (inR64 rw')
  have e14 : tI (W (lo x v y w h t)) = 2 * place x v y w h t - 1 := (tI_of k.l (inR64 k.rl))
  have e15 : tI (W (wH h)) = h * h * h := (tI_of K.H (inR64 rH))
  have e16 : tI (W (((0 + ((2 * pA h t) * x)) + ((2 * pB h t) * v)) + ((2 * pC h t) * y))) = ((0 + ((2 * pA h t) * x)) + ((2 * pB h t) * v)) + ((2 * pC h t) * y) := tI_in U.s3
  have e17 : tI (W ((2 * pD h t) * w)) = (2 * pD h t) * w := tI_in U.p4
  have e18 : tI (W ((2 * place x v y w h t - 1) * (h * h * h))) = (2 * place x v y w h t - 1) * (h * h * h) := tI_in il
  have e19 : tI (W ((((0 + ((2 * pA h t) * x)) + ((2 * pB h t) * v)) + ((2 * pC h t) * y)) + ((2 * pD h t) * w))) = (((0 + ((2 * pA h t) * x)) + ((2 * pB h t) * v)) + ((2 * pC h t) * y)) + ((2 * pD h t) * w) := tI_in U.s4
  have e20 : tI (W (hi x v y w h t)) = 2 * place x v y w h t + 1 := (tI_of k.u (inR64 k.ru))
  have e21 : tI (W ((2 * place x v y w h t + 1) * (h * h * h))) = (2 * place x v y w h t + 1) * (h * h * h) := tI_in iu
  have R := hn_run x v y w h t
  rw [e0, e1, e2, e3, e4, e5, e6, e7, e8, e9, e10, e11, e12, e13, e14, e15, e16, e17, e18, e19, e20, e21] at R
  refine gives_of_run mo R (ps_cons trivial (ps_cons (neg_f q) (ps_cons M (ps_cons (decide_eq_false (by omega)) (ps_cons (decide_eq_false (by omega)) (ps_cons ⟨M.h1, M.h2, M.t1, M.t2⟩ (ps_cons (by show I64 _; rw [k.A]; exact k.rA) (ps_cons rx (ps_cons (P2_W _ _) (ps_cons (P2_W _ _) (ps_cons (by show I64 _; rw [k.B]; exact k.rB) (ps_cons rv (ps_cons (P2_W _ _) (ps_cons (P2_W _ _) (ps_cons (by show I64 _; rw [k.C]; exact k.rC) (ps_cons ry (ps_cons (P2_W _ _) (ps_cons (P2_W _ _) (ps_cons (by show I64 _; rw [k.D]; exact k.rD) (ps_cons rw' (ps_cons (P2_W _ _) (ps_cons (P2_W _ _) (ps_cons rH' (ps_cons (by show I64 _; rw [k.l]; exact k.rl) (ps_cons (P2_W _ _) (ps_cons (by show I64 _; rw [k.u]; exact k.ru) (ps_cons (P2_W _ _) (ps_cons (by rw [k.a, k.c, K.B, K.D]; simp) (ps_cons (P2_W _ _) (ps_cons (decide_eq_true (by rw [z]; unfold cmp3; have := n2.1; have := n2.2; unfold place; omega)) (ps_cons (P2_W _ _) (ps_cons (decide_eq_true (by rw [z]; unfold cmp3; have := n2.1; have := n2.2; unfold place; omega)) (ps_cons trivial ps_nil))))))))))))))))))))))))))))))))) ?_
  rfl
theorem HermiteNear_all (x v y w h t : Int) (rx : I64 x) (rv : I64 v) (ry : I64 y) (rz : I64 w) : Gives P 4 #[.int .i64 x, .int .i64 v, .int .i64 y, .int .i64 w, .int .i64 h, .int .i64 t] (.bool true) := by
  cases q : lmB x v y w h t with
  | true => exact hn_leaf x v y w h t (lm_may rx rv ry rz q) q
  | false => exact hn_bad x v y w h t q
end Go.He
