/-
  Contracts of gyreref05: all but slices of intervals. Printed by rf5.py.
-/
import Derived.Test.YtmlmfjlecgcndaaDoorIvb
import Derived.Test.YtmlmfjlecgcndaaDoorIva
import Derived.Test.YtmlmfjlecgcndaaDoorRfc
set_option maxRecDepth 100000
namespace Go.R5
open Go Go.RowKit Go.Sx Go.Nm Go.Wd Go.Qt Go.Iv Go.Proofs

noncomputable def U0 : Env P := ⟨⟨[], [rFine]⟩, [], 10, []⟩
def told5P : List Value → Prop
  | [x, .bool _] => ∃ a, x = I a
  | _ => False
def told5V : List Value → Value
  | [x, .bool b] => I (bif b then told (rd x) else bd)
  | _ => undef
theorem told0_run (a : Iv) (b : Bool) : runF P U0 1 18 [I a, .bool b] (.b false :: (.lit :: (.b false :: []))) =
  some (I a,
    [(!b) = false,
     fineP [ivs [a]],
     (!(fineL [a])) = false]) := by kernel_rfl
theorem told0_leaf (a : Iv) (b : Bool)  (q0 : (b) = true) (q1 : (fineL [a]) = true) : Gives P 18 #[I a, .bool b] (I (bif b then told a else bd)) := by
  have R := told0_run a b
  refine gives_of_run mo R (ps_cons (neg_f q0) (ps_cons (ivs_ok (by simp)) (ps_cons (neg_f q1) ps_nil))) ?_
  rw [q0, cond_true, told_ok (fine1 ▸ q1)]
theorem told1_run (a : Iv) (b : Bool) : runF P U0 2 18 [I a, .bool b] (.b true :: []) =
  some (I (⟨0, 0, true⟩),
    [(!b) = true]) := by kernel_rfl
theorem told1_leaf (a : Iv) (b : Bool)  (q0 : (b) = false) : Gives P 18 #[I a, .bool b] (I (bif b then told a else bd)) := by
  have R := told1_run a b
  refine gives_of_run mo R (ps_cons (neg_t q0) ps_nil) ?_
  rw [q0]
  rfl
theorem told2_run (a : Iv) (b : Bool) : runF P U0 2 18 [I a, .bool b] (.b false :: (.lit :: (.b true :: []))) =
  some (I (⟨0, 0, true⟩),
    [(!b) = false,
     fineP [ivs [a]],
     (!(fineL [a])) = true]) := by kernel_rfl
theorem told2_leaf (a : Iv) (b : Bool)  (q0 : (b) = true) (q1 : (fineL [a]) = false) : Gives P 18 #[I a, .bool b] (I (bif b then told a else bd)) := by
  have R := told2_run a b
  refine gives_of_run mo R (ps_cons (neg_f q0) (ps_cons (ivs_ok (by simp)) (ps_cons (neg_t q1) ps_nil))) ?_
  rw [q0, cond_true, told_no (fine1 ▸ q1)]
  rfl
theorem told_gives (args : List Value) (h : told5P args) : Gives P 18 args.toArray ((told5V) args) := by
  unfold told5P at h
  split at h
  · rename_i b
    obtain ⟨a, rfl⟩ := h
    show Gives P _ #[I a, .bool b] (I (bif b then told a else bd))
    rcases Bool.eq_false_or_eq_true b with q0 | q0
    · cases q1 : (fineL [a]) with
      | true =>
        exact told0_leaf a b  q0 q1
      | false =>
        exact told2_leaf a b  q0 q1
    · exact told1_leaf a b  q0
  · exact h.elim
noncomputable def cTold : Ctr P := ⟨18, told5P, told5V, told_gives⟩
noncomputable def U1 : Env P := ⟨⟨[cTold], [rFine]⟩, [], 10, []⟩
theorem pt0_run (n : Int) : runF P U1 1 9 [.int .i64 n] [] =
  some (I (bif true then told (⟨n, n, false⟩) else bd),
    [told5P [I (⟨n, n, false⟩), .bool true]]) := by kernel_rfl
theorem pt0_leaf (n : Int)   : Gives P 9 #[.int .i64 n] (I (pointI n)) := by
  have R := pt0_run n
  refine gives_of_run mo R (ps_cons ⟨_, rfl⟩ ps_nil) ?_
  rfl
theorem pt_gives (args : List Value) (h : nP1 args) : Gives P 9 args.toArray ((n1V fun n => I (pointI n)) args) := by
  unfold nP1 at h
  split at h
  · rename_i n
    show Gives P _ #[.int .i64 n] (I (pointI n))
    exact pt0_leaf n  
  · exact h.elim
noncomputable def cPoint : Ctr P := ⟨9, nP1, n1V fun n => I (pointI n), pt_gives⟩
noncomputable def U2 : Env P := ⟨⟨[cTold, cPoint], [rFine]⟩, [], 10, []⟩
theorem of_no {n : Int} (h : n > 1073741824 ∨ n < -1073741824) : ofI n = bd := by
  unfold ofI
  have : (decide (-1073741824 ≤ n) && decide (n ≤ 1073741824)) = false := by
    rw [← Bool.not_eq_true]; simp only [Bool.and_eq_true, decide_eq_true_eq]; omega
  rw [this]; rfl
theorem of_yes {n : Int} (h : ¬ n > 1073741824) (h2 : ¬ n < -1073741824) : IntKind.i64.wrap (n * 1073741824) = n * 1073741824 ∧ pointI (n * 1073741824) = ofI n ∧ I64 (n * 1073741824) := by
  refine ⟨wr (by omega) (by omega), ?_, by unfold I64; omega⟩
  unfold ofI pointI
  have : (decide (-1073741824 ≤ n) && decide (n ≤ 1073741824)) = true := by
    simp only [Bool.and_eq_true, decide_eq_true_eq]; omega
  rw [this]
  exact told_ok (fine_iff.2 ⟨rfl, by simp only; omega, Int.le_refl _, by simp only; omega⟩)
theorem of0_run (n : Int) : runF P U2 2 21 [.int .i64 n] (.b true :: []) =
  some (I (⟨0, 0, true⟩),
    [(decide (n > 1073741824)) = true]) := by kernel_rfl
theorem of0_leaf (n : Int)  (q0 : (decide (n > 1073741824)) = true) : Gives P 21 #[.int .i64 n] (I (ofI n)) := by
  have R := of0_run n
  refine gives_of_run mo R (ps_cons q0 ps_nil) ?_
  rw [of_no (.inl (of_decide_eq_true q0))]
  rfl
theorem of1_run (n : Int) : runF P U2 2 21 [.int .i64 n] (.b false :: (.b true :: [])) =
  some (I (⟨0, 0, true⟩),
    [(decide (n > 1073741824)) = false,
     (decide (n < -1073741824)) = true]) := by kernel_rfl
theorem of1_leaf (n : Int)  (q0 : (decide (n > 1073741824)) = false) (q1 : (decide (n < -1073741824)) = true) : Gives P 21 #[.int .i64 n] (I (ofI n)) := by
  have R := of1_run n
  refine gives_of_run mo R (ps_cons q0 (ps_cons q1 ps_nil)) ?_
  rw [of_no (.inr (of_decide_eq_true q1))]
  rfl
theorem of2_run (n : Int) : runF P U2 1 21 [.int .i64 n] (.b false :: (.b false :: [])) =
  some (I (pointI (IntKind.i64.wrap (n * 1073741824))),
    [(decide (n > 1073741824)) = false,
     (decide (n < -1073741824)) = false,
     nP1 [.int .i64 (IntKind.i64.wrap (n * 1073741824))]]) := by kernel_rfl
theorem of2_leaf (n : Int)  (q0 : (decide (n > 1073741824)) = false) (q1 : (decide (n < -1073741824)) = false) : Gives P 21 #[.int .i64 n] (I (ofI n)) := by
  have R := of2_run n
  refine gives_of_run mo R (ps_cons q0 (ps_cons q1 (ps_cons (by obtain ⟨h1, h2, h3⟩ := of_yes (of_decide_eq_false q0) (of_decide_eq_false q1); rw [h1]; exact h3) ps_nil))) ?_
  obtain ⟨h1, h2, h3⟩ := of_yes (of_decide_eq_false q0) (of_decide_eq_false q1)
  rw [h1, h2]
theorem of_gives (args : List Value) (h : nP1 args) : Gives P 21 args.toArray ((n1V fun n => I (ofI n)) args) := by
  unfold nP1 at h
  split at h
  · rename_i n
    show Gives P _ #[.int .i64 n] (I (ofI n))
    cases q0 : (decide (n > 1073741824)) with
    | true =>
      exact of0_leaf n  q0
    | false =>
      cases q1 : (decide (n < -1073741824)) with
      | true =>
        exact of1_leaf n  q0 q1
      | false =>
        exact of2_leaf n  q0 q1
  · exact h.elim
noncomputable def cOf : Ctr P := ⟨21, nP1, n1V fun n => I (ofI n), of_gives⟩
theorem mk0_run (n m : Int) : runF P U1 1 6 [.int .i64 n, .int .i64 m] [] =
  some (I (bif true then told (⟨mn n m, mx n m, false⟩) else bd),
    [told5P [I (⟨mn n m, mx n m, false⟩), .bool true]]) := by kernel_rfl
theorem mk0_leaf (n m : Int)   : Gives P 6 #[.int .i64 n, .int .i64 m] (I (makeI n m)) := by
  have R := mk0_run n m
  refine gives_of_run mo R (ps_cons ⟨_, rfl⟩ ps_nil) ?_
  rfl
theorem mk_gives (args : List Value) (h : nP2 args) : Gives P 6 args.toArray ((n2V fun n m => I (makeI n m)) args) := by
  unfold nP2 at h
  split at h
  · rename_i n m
    show Gives P _ #[.int .i64 n, .int .i64 m] (I (makeI n m))
    exact mk0_leaf n m  
  · exact h.elim
noncomputable def cMake : Ctr P := ⟨6, nP2, n2V fun n m => I (makeI n m), mk_gives⟩
theorem wd0_run (a : Iv) : runF P U1 1 22 [I a] (.lit :: (.b false :: [])) =
  some (.int .i64 (IntKind.i64.wrap (a.hi - a.lo)),
    [fineP [ivs [a]],
     (!(fineL [a])) = false]) := by kernel_rfl
theorem wd0_leaf (a : Iv)  (q0 : (fineL [a]) = true) : Gives P 22 #[I a] (.int .i64 (widthI a)) := by
  have R := wd0_run a
  refine gives_of_run mo R (ps_cons (ivs_ok (by simp)) (ps_cons (neg_f q0) ps_nil)) ?_
  have ra := fine_iff.1 (fine1 ▸ q0)
  unfold widthI
  rw [q0, wr (by omega) (by omega)]
  rfl
theorem wd1_run (a : Iv) : runF P U1 1 22 [I a] (.lit :: (.b true :: [])) =
  some (.int .i64 (-1),
    [fineP [ivs [a]],
     (!(fineL [a])) = true]) := by kernel_rfl
theorem wd1_leaf (a : Iv)  (q0 : (fineL [a]) = false) : Gives P 22 #[I a] (.int .i64 (widthI a)) := by
  have R := wd1_run a
  refine gives_of_run mo R (ps_cons (ivs_ok (by simp)) (ps_cons (neg_t q0) ps_nil)) ?_
  unfold widthI
  rw [q0]
  rfl
theorem wd_gives (args : List Value) (h : iP1 args) : Gives P 22 args.toArray ((one1 fun a => .int .i64 (widthI a)) args) := by
  unfold iP1 at h
  split at h
  · obtain ⟨a, rfl⟩ := h
    show Gives P _ #[I a] (.int .i64 (widthI a))
    cases q0 : (fineL [a]) with
    | true =>
      exact wd0_leaf a  q0
    | false =>
      exact wd1_leaf a  q0
  · exact h.elim
noncomputable def cWidth : Ctr P := ⟨22, iP1, one1 fun a => .int .i64 (widthI a), wd_gives⟩
theorem sub0_run (a b : Iv) : runF P U1 1 12 [I a, I b] [] =
  some (I (bif (fineL [a, b]) then told (⟨IntKind.i64.wrap (a.lo - b.hi), IntKind.i64.wrap (a.hi - b.lo), false⟩) else bd),
    [fineP [ivs [a, b]],
     told5P [I (⟨IntKind.i64.wrap (a.lo - b.hi), IntKind.i64.wrap (a.hi - b.lo), false⟩), .bool (fineL [a, b])]]) := by kernel_rfl
theorem sub0_leaf (a b : Iv)   : Gives P 12 #[I a, I b] (I (subI a b)) := by
  have R := sub0_run a b
  refine gives_of_run mo R (ps_cons (ivs_ok (by simp)) (ps_cons ⟨_, rfl⟩ ps_nil)) ?_
  unfold subI
  cases hf : fineL [a, b] with
  | false => rfl
  | true =>
    have h := fine2.1 hf
    have := fine_iff.1 h.1
    have := fine_iff.1 h.2
    rw [wr (by omega) (by omega), wr (by omega) (by omega)]
theorem sub_gives (args : List Value) (h : iP2 args) : Gives P 12 args.toArray ((two2 fun a b => I (subI a b)) args) := by
  unfold iP2 at h
  split at h
  · obtain ⟨⟨a, rfl⟩, b, rfl⟩ := h
    show Gives P _ #[I a, I b] (I (subI a b))
    exact sub0_leaf a b  
  · exact h.elim
noncomputable def cSub : Ctr P := ⟨12, iP2, two2 fun a b => I (subI a b), sub_gives⟩
theorem meet0_run (a b : Iv) : runF P U1 1 25 [I a, I b] [] =
  some (I (bif (fineL [a, b]) then told (⟨mx a.lo b.lo, mn a.hi b.hi, false⟩) else bd),
    [fineP [ivs [a, b]],
     told5P [I (⟨mx a.lo b.lo, mn a.hi b.hi, false⟩), .bool (fineL [a, b])]]) := by kernel_rfl
theorem meet0_leaf (a b : Iv)   : Gives P 25 #[I a, I b] (I (meetI a b)) := by
  have R := meet0_run a b
  refine gives_of_run mo R (ps_cons (ivs_ok (by simp)) (ps_cons ⟨_, rfl⟩ ps_nil)) ?_
  rfl
theorem meet_gives (args : List Value) (h : iP2 args) : Gives P 25 args.toArray ((two2 fun a b => I (meetI a b)) args) := by
  unfold iP2 at h
  split at h
  · obtain ⟨⟨a, rfl⟩, b, rfl⟩ := h
    show Gives P _ #[I a, I b] (I (meetI a b))
    exact meet0_leaf a b  
  · exact h.elim
noncomputable def cMeet : Ctr P := ⟨25, iP2, two2 fun a b => I (meetI a b), meet_gives⟩
theorem hd0_run (a b : Iv) : runF P U1 1 5 [I a, I b] (.lit :: (.b true :: (.b true :: []))) =
  some (.bool (decide (b.hi ≤ a.hi)),
    [fineP [ivs [a, b]],
     (fineL [a, b]) = true,
     (decide (a.lo ≤ b.lo)) = true]) := by kernel_rfl
theorem hd0_leaf (a b : Iv)  (q0 : (fineL [a, b]) = true) (q1 : (decide (a.lo ≤ b.lo)) = true) : Gives P 5 #[I a, I b] (.bool (holdsI a b)) := by
  have R := hd0_run a b
  refine gives_of_run mo R (ps_cons (ivs_ok (by simp)) (ps_cons q0 (ps_cons q1 ps_nil))) ?_
  unfold holdsI
  rw [q0, q1]
  rfl
theorem hd1_run (a b : Iv) : runF P U1 1 5 [I a, I b] (.lit :: (.b false :: [])) =
  some (.bool false,
    [fineP [ivs [a, b]],
     (fineL [a, b]) = false]) := by kernel_rfl
theorem hd1_leaf (a b : Iv)  (q0 : (fineL [a, b]) = false) : Gives P 5 #[I a, I b] (.bool (holdsI a b)) := by
  have R := hd1_run a b
  refine gives_of_run mo R (ps_cons (ivs_ok (by simp)) (ps_cons q0 ps_nil)) ?_
  unfold holdsI
  rw [q0]
  rfl
theorem hd2_run (a b : Iv) : runF P U1 1 5 [I a, I b] (.lit :: (.b true :: (.b false :: []))) =
  some (.bool false,
    [fineP [ivs [a, b]],
     (fineL [a, b]) = true,
     (decide (a.lo ≤ b.lo)) = false]) := by kernel_rfl
theorem hd2_leaf (a b : Iv)  (q0 : (fineL [a, b]) = true) (q1 : (decide (a.lo ≤ b.lo)) = false) : Gives P 5 #[I a, I b] (.bool (holdsI a b)) := by
  have R := hd2_run a b
  refine gives_of_run mo R (ps_cons (ivs_ok (by simp)) (ps_cons q0 (ps_cons q1 ps_nil))) ?_
  unfold holdsI
  rw [q0, q1]
  rfl
theorem hd_gives (args : List Value) (h : iP2 args) : Gives P 5 args.toArray ((two2 fun a b => .bool (holdsI a b)) args) := by
  unfold iP2 at h
  split at h
  · obtain ⟨⟨a, rfl⟩, b, rfl⟩ := h
    show Gives P _ #[I a, I b] (.bool (holdsI a b))
    cases q0 : (fineL [a, b]) with
    | true =>
      cases q1 : (decide (a.lo ≤ b.lo)) with
      | true =>
        exact hd0_leaf a b  q0 q1
      | false =>
        exact hd2_leaf a b  q0 q1
    | false =>
      exact hd1_leaf a b  q0
  · exact h.elim
noncomputable def cHolds : Ctr P := ⟨5, iP2, two2 fun a b => .bool (holdsI a b), hd_gives⟩
def byR (x n d : Int) : Bool := (qe (x * n) d == 0) && (i64B (qv fq (x * n) d) && (i64B (qv cq (x * n) d) && (decide (byLo x n d ≥ -1152921504606846976) && decide (byHi x n d ≤ 1152921504606846976))))
theorem byOk_eq' {x n d : Int} (hx : I64 x) (hn : I64 n) (hd : I64 d) : byOk x n d = byR x n d := by
  have ha := smmul hx hn
  have hb := sm64 hd
  unfold byOk byR
  by_cases h : d = 0
  · subst h
    rw [qe_z]
    simp
  · have := fq_cq (x * n) d
    unfold byLo byHi
    rw [qe_ok ha hb h, qv_ok fq ha hb h, qv_ok cq ha hb h]
    generalize fq (x * n) d = f at *
    generalize cq (x * n) d = c at *
    rw [Bool.eq_iff_iff]
    simp only [Bool.and_eq_true, decide_eq_true_eq, beq_self_eq_true, true_and, i64B]
    constructor
    · rintro ⟨_, h1, h2⟩
      refine ⟨⟨by omega, by omega⟩, ⟨by omega, by omega⟩, ?_⟩
      rw [if_pos ⟨by omega, by omega⟩, if_pos ⟨by omega, by omega⟩]
      omega
    · rintro ⟨h1, h2, h3⟩
      rw [if_pos h1, if_pos h2] at h3
      exact ⟨h, by omega, by omega⟩
noncomputable def U4 : Env P := ⟨⟨[cTold], [rFine]⟩, [], 10, []⟩
theorem partR_eq (a : Iv) (n d : Int) : partR a n d = ⟨mn (byLo a.lo n d) (byLo a.hi n d), mx (byHi a.lo n d) (byHi a.hi n d), false⟩ := by
  unfold partR wide2
  have e1 : ∀ x : Int, mn x x = x := fun x => by unfold mn; rw [if_neg (by omega)]
  have e2 : ∀ x : Int, mx x x = x := fun x => by unfold mx; rw [if_neg (by omega)]
  rw [e1, e2]
theorem byOk_0 (x n : Int) : byOk x n 0 = false := by unfold byOk; rfl
noncomputable def rf5C : List (Ctr P) := [cTold, cPoint, cOf, cMake, cWidth, cSub, cMeet, cHolds]
end Go.R5
