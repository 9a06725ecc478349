/-
  Contracts of gyreref05: all but slices of intervals. Printed by rf5.py.
-/
import Derived.Test.YthadbpnapbmppaaDoorIvb
import Derived.Test.YthadbpnapbmppaaDoorIva
import Derived.Test.YthadbpnapbmppaaDoorRfc
set_option maxRecDepth 100000
namespace Go.R5
open Go Go.RowKit Go.Sx Go.Nm Go.Wd Go.Qt Go.Iv Go.Proofs

noncomputable def U0 : Env P := ⟨⟨[], [rFine]⟩, [], 10, []⟩
def told5P : List Value → Prop
  | [x, .bool _] => ∃ a, x = I a
  | _ => False
def told5V : List Value → Value
  | [x, .bool b] => I (bif b then told (rd x) else bd)
  | _ => undef
noncomputable def U1 : Env P := ⟨⟨[], [rFine]⟩, [], 10, []⟩
noncomputable def U2 : Env P := ⟨⟨[], [rFine]⟩, [], 10, []⟩
theorem of_no {n : Int} (h : n > 1073741824 ∨ n < -1073741824) : ofI n = bd := by
  unfold ofI
  have : (decide (-1073741824 ≤ n) && decide (n ≤ 1073741824)) = false := by
    rw [← Bool.not_eq_true]; simp only [Bool.and_eq_true, decide_eq_true_eq]; omega
  rw [this]; rfl
theorem of_yes {n : Int} (h : ¬ n > 1073741824) (h2 : ¬ n < -1073741824) : IntKind.i64.wrap (n * 1073741824) = n * 1073741824 ∧ pointI (n * 1073741824) = ofI n ∧ I64 (n * 1073741824) := by
  refine ⟨wr (by omega) (by omega), ?_, by unfold I64; omega⟩
  unfold ofI pointI
  have : (decide (-1073741824 ≤ n) && decide (n ≤ 1073741824)) = true := by
    simp only [Bool.and_eq_true, decide_eq_true_eq]; omega
  rw [this]
  exact told_ok (fine_iff.2 ⟨rfl, by simp only; omega, Int.le_refl _, by simp only; omega⟩)
theorem hd0_run (a b : Iv) : runF P U1 1 9 [I a, I b] (.lit :: (.b true :: (.b true :: []))) =
  some (.bool (decide (b.hi ≤ a.hi)),
    [fineP [ivs [a, b]],
     (fineL [a, b]) = true,
     (decide (a.lo ≤ b.lo)) = true]) := by kernel_rfl
theorem hd0_leaf (a b : Iv)  (q0 : (fineL [a, b]) = true) (q1 : (decide (a.lo ≤ b.lo)) = true) : Gives P 9 #[I a, I b] (.bool (holdsI a b)) := by
  have R := hd0_run a b
  refine gives_of_run mo R (ps_cons (ivs_ok (by simp)) (ps_cons q0 (ps_cons q1 ps_nil))) ?_
  unfold holdsI
  rw [q0, q1]
  rfl
theorem hd1_run (a b : Iv) : runF P U1 1 9 [I a, I b] (.lit :: (.b false :: [])) =
  some (.bool false,
    [fineP [ivs [a, b]],
     (fineL [a, b]) = false]) := by kernel_rfl
theorem hd1_leaf (a b : Iv)  (q0 : (fineL [a, b]) = false) : Gives P 9 #[I a, I b] (.bool (holdsI a b)) := by
  have R := hd1_run a b
  refine gives_of_run mo R (ps_cons (ivs_ok (by simp)) (ps_cons q0 ps_nil)) ?_
  unfold holdsI
  rw [q0]
  rfl
theorem hd2_run (a b : Iv) : runF P U1 1 9 [I a, I b] (.lit :: (.b true :: (.b false :: []))) =
  some (.bool false,
    [fineP [ivs [a, b]],
     (fineL [a, b]) = true,
     (decide (a.lo ≤ b.lo)) = false]) := by kernel_rfl
theorem hd2_leaf (a b : Iv)  (q0 : (fineL [a, b]) = true) (q1 : (decide (a.lo ≤ b.lo)) = false) : Gives P 9 #[I a, I b] (.bool (holdsI a b)) := by
  have R := hd2_run a b
  refine gives_of_run mo R (ps_cons (ivs_ok (by simp)) (ps_cons q0 (ps_cons q1 ps_nil))) ?_
  unfold holdsI
  rw [q0, q1]
  rfl
theorem hd_gives (args : List Value) (h : iP2 args) : Gives P 9 args.toArray ((two2 fun a b => .bool (holdsI a b)) args) := by
  unfold iP2 at h
  split at h
  · obtain ⟨⟨a, rfl⟩, b, rfl⟩ := h
    show Gives P _ #[I a, I b] (.bool (holdsI a b))
    cases q0 : (fineL [a, b]) with
    | true =>
      cases q1 : (decide (a.lo ≤ b.lo)) with
      | true =>
        exact hd0_leaf a b  q0 q1
      | false =>
        exact hd2_leaf a b  q0 q1
    | false =>
      exact hd1_leaf a b  q0
  · exact h.elim
noncomputable def cHolds : Ctr P := ⟨9, iP2, two2 fun a b => .bool (holdsI a b), hd_gives⟩
def byR (x n d : Int) : Bool := (qe (x * n) d == 0) && (i64B (qv fq (x * n) d) && (i64B (qv cq (x * n) d) && (decide (byLo x n d ≥ -1152921504606846976) && decide (byHi x n d ≤ 1152921504606846976))))
theorem byOk_eq' {x n d : Int} (hx : I64 x) (hn : I64 n) (hd : I64 d) : byOk x n d = byR x n d := by
  have ha := smmul hx hn
  have hb := sm64 hd
  unfold byOk byR
  by_cases h : d = 0
  · subst h
    rw [qe_z]
    simp
  · have := fq_cq (x * n) d
    unfold byLo byHi
    rw [qe_ok ha hb h, qv_ok fq ha hb h, qv_ok cq ha hb h]
    generalize fq (x * n) d = f at *
    generalize cq (x * n) d = c at *
    rw [Bool.eq_iff_iff]
    simp only [Bool.and_eq_true, decide_eq_true_eq, beq_self_eq_true, true_and, i64B]
    constructor
    · rintro ⟨_, h1, h2⟩
      refine ⟨⟨by omega, by omega⟩, ⟨by omega, by omega⟩, ?_⟩
      rw [if_pos ⟨by omega, by omega⟩, if_pos ⟨by omega, by omega⟩]
      omega
    · rintro ⟨h1, h2, h3⟩
      rw [if_pos h1, if_pos h2] at h3
      exact ⟨h, by omega, by omega⟩
noncomputable def U4 : Env P := ⟨⟨[], [rFine]⟩, [], 10, []⟩
theorem partR_eq (a : Iv) (n d : Int) : partR a n d = ⟨mn (byLo a.lo n d) (byLo a.hi n d), mx (byHi a.lo n d) (byHi a.hi n d), false⟩ := by
  unfold partR wide2
  have e1 : ∀ x : Int, mn x x = x := fun x => by unfold mn; rw [if_neg (by omega)]
  have e2 : ∀ x : Int, mx x x = x := fun x => by unfold mx; rw [if_neg (by omega)]
  rw [e1, e2]
theorem byOk_0 (x n : Int) : byOk x n 0 = false := by unfold byOk; rfl
noncomputable def rf5C : List (Ctr P) := [cHolds]
end Go.R5
