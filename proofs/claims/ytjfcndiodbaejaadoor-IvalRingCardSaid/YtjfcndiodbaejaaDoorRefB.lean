/-
  Contracts of the document's answer for wide numbers (gyreref02), second part: printed by refB.py.
-/
import Derived.Test.YtjfcndiodbaejaaDoorRefA
set_option maxRecDepth 100000
namespace Go.Rd
open Go Go.RowKit Go.Sx Go.Nm Go.Wd Go.Proofs

noncomputable def F1 : Env P := ⟨[digits, wide, low, not, plus], [], 10, []⟩
theorem isD (n : Int) : IsD (Dg n) := ⟨n, rfl⟩
theorem isD_0 : IsD (.agg #[.int .u64 0, .int .u64 0, .int .u64 0, .int .u64 0, .int .u64 0, .int .u64 0, .int .u64 0, .int .u64 0]) := ⟨0, by kernel_rfl⟩
theorem dn_0 : dn (.agg #[.int .u64 0, .int .u64 0, .int .u64 0, .int .u64 0, .int .u64 0, .int .u64 0, .int .u64 0, .int .u64 0]) = 0 := by kernel_rfl
theorem dW (n : Int) : W (bm n) = W n := W_congr (bm_mod n)

/-! ### Neg -/
theorem neg_W (a : Int) : W (bm (bm (-1 - bm (bm a)) + 0 + 1)) = W (-bm a) := by
  rw [bm_in (bm_range a), Int.add_zero, dW]
  refine W_congr ?_
  have := bm_mod (-1 - bm a)
  simp only [MM] at *
  omega
theorem neg_over1 {x : Int} (hx : InR x) (h : decide (x < 0) = true) : decide (bm (-x) < 0) = !inRB (-x) := by
  have hm := bm_mod (-x)
  have hr := bm_range (-x)
  have h := of_decide_eq_true h
  unfold InR at *
  unfold inRB
  rw [Bool.eq_iff_iff]
  simp only [decide_eq_true_iff, Bool.not_eq_true', Bool.and_eq_false_iff, decide_eq_false_iff_not]
  simp only [MM, HH] at *
  omega
theorem neg_over2 {x : Int} (hx : InR x) (h : decide (x < 0) = false) : false = !inRB (-x) := by
  have h := of_decide_eq_false h
  have : InR (-x) := by unfold InR at *; simp only [HH] at *; omega
  rw [inRB_of this]; rfl
theorem neg_run0 (a : Int) : runF P F1 1 79 [W a] (.b true :: []) =
  some (.tuple #[W (dn (Dg (dn (Dg (-1 - dn (Dg (tI (W a))))) + dn (.agg #[.int .u64 0, .int .u64 0, .int .u64 0, .int .u64 0, .int .u64 0, .int .u64 0, .int .u64 0, .int .u64 0]) + 1))), .bool (decide (tI (W (dn (Dg (dn (Dg (-1 - dn (Dg (tI (W a))))) + dn (.agg #[.int .u64 0, .int .u64 0, .int .u64 0, .int .u64 0, .int .u64 0, .int .u64 0, .int .u64 0, .int .u64 0]) + 1)))) < 0))],
    [P1 [W a],
     D1P [Dg (tI (W a))],
     plusP [Dg (-1 - dn (Dg (tI (W a)))), .agg #[.int .u64 0, .int .u64 0, .int .u64 0, .int .u64 0, .int .u64 0, .int .u64 0, .int .u64 0, .int .u64 0], .int .u64 1],
     D1P [Dg (dn (Dg (-1 - dn (Dg (tI (W a))))) + dn (.agg #[.int .u64 0, .int .u64 0, .int .u64 0, .int .u64 0, .int .u64 0, .int .u64 0, .int .u64 0, .int .u64 0]) + 1)],
     P1 [W a],
     (decide (tI (W a) < 0)) = true,
     P1 [W (dn (Dg (dn (Dg (-1 - dn (Dg (tI (W a))))) + dn (.agg #[.int .u64 0, .int .u64 0, .int .u64 0, .int .u64 0, .int .u64 0, .int .u64 0, .int .u64 0, .int .u64 0]) + 1)))]]) := by kernel_rfl

theorem neg_run1 (a : Int) : runF P F1 1 79 [W a] (.b false :: []) =
  some (.tuple #[W (dn (Dg (dn (Dg (-1 - dn (Dg (tI (W a))))) + dn (.agg #[.int .u64 0, .int .u64 0, .int .u64 0, .int .u64 0, .int .u64 0, .int .u64 0, .int .u64 0, .int .u64 0]) + 1))), .bool false],
    [P1 [W a],
     D1P [Dg (tI (W a))],
     plusP [Dg (-1 - dn (Dg (tI (W a)))), .agg #[.int .u64 0, .int .u64 0, .int .u64 0, .int .u64 0, .int .u64 0, .int .u64 0, .int .u64 0, .int .u64 0], .int .u64 1],
     D1P [Dg (dn (Dg (-1 - dn (Dg (tI (W a))))) + dn (.agg #[.int .u64 0, .int .u64 0, .int .u64 0, .int .u64 0, .int .u64 0, .int .u64 0, .int .u64 0, .int .u64 0]) + 1)],
     P1 [W a],
     (decide (tI (W a) < 0)) = false]) := by kernel_rfl

theorem neg_gives (args : List Value) (h : P1 args) : Gives P 79 args.toArray (negV args) := by
  unfold P1 at h
  split at h
  · obtain ⟨a, rfl⟩ := h
    cases q1 : (decide (tI (W a) < 0)) with
    | true =>
      refine gives_of_run mo (neg_run0 a) (ps_cons (P1_W _) (ps_cons (isD _) (ps_cons ⟨isD _, isD_0, by decide, by decide⟩ (ps_cons (isD _) (ps_cons (P1_W _) (ps_cons q1 (ps_cons (P1_W _) ps_nil))))))) ?_
      have e : W (dn (Dg (dn (Dg (-1 - dn (Dg (tI (W a))))) + dn (.agg #[.int .u64 0, .int .u64 0, .int .u64 0, .int .u64 0, .int .u64 0, .int .u64 0, .int .u64 0, .int .u64 0]) + 1))) = W (-bm a) := by
        simp only [dn_Dg, dn_0, tI_W]
        exact neg_W a
      simp only [negV, e]
      simp only [tI_W] at *
      congr 1
      rw [neg_over1 (bm_range a) q1]
    | false =>
      refine gives_of_run mo (neg_run1 a) (ps_cons (P1_W _) (ps_cons (isD _) (ps_cons ⟨isD _, isD_0, by decide, by decide⟩ (ps_cons (isD _) (ps_cons (P1_W _) (ps_cons q1 ps_nil)))))) ?_
      have e : W (dn (Dg (dn (Dg (-1 - dn (Dg (tI (W a))))) + dn (.agg #[.int .u64 0, .int .u64 0, .int .u64 0, .int .u64 0, .int .u64 0, .int .u64 0, .int .u64 0, .int .u64 0]) + 1))) = W (-bm a) := by
        simp only [dn_Dg, dn_0, tI_W]
        exact neg_W a
      simp only [negV, e]
      simp only [tI_W] at *
      congr 1
      rw [neg_over2 (bm_range a) q1]
  · exact h.elim
noncomputable def neg : Ctr P := ⟨79, P1, negV, neg_gives⟩

/-! ### Add, Sub -/
theorem add_W (a b : Int) : W (bm (bm (bm a) + bm (bm b) + 0)) = W (bm a + bm b) := by
  rw [bm_in (bm_range a), bm_in (bm_range b), Int.add_zero, dW]
theorem sub_W' (a b : Int) : W (bm (bm (bm a) + bm (-1 - bm (bm b)) + 1)) = W (bm a - bm b) := by
  rw [bm_in (bm_range a), bm_in (bm_range b), dW]
  exact sub_W a b
theorem add_run0 (a b : Int) : runF P F1 1 112 [W a, W b] (.b true :: []) =
  some (.tuple #[W (dn (Dg (dn (Dg (tI (W a))) + dn (Dg (tI (W b))) + 0))), .bool ((decide (tI (W (dn (Dg (dn (Dg (tI (W a))) + dn (Dg (tI (W b))) + 0)))) < 0)) != (decide (tI (W a) < 0)))],
    [P1 [W a],
     P1 [W b],
     plusP [Dg (tI (W a)), Dg (tI (W b)), .int .u64 0],
     D1P [Dg (dn (Dg (tI (W a))) + dn (Dg (tI (W b))) + 0)],
     P1 [W a],
     P1 [W b],
     ((decide (tI (W a) < 0)) == (decide (tI (W b) < 0))) = true,
     P1 [W (dn (Dg (dn (Dg (tI (W a))) + dn (Dg (tI (W b))) + 0)))],
     P1 [W a]]) := by kernel_rfl

theorem add_run1 (a b : Int) : runF P F1 1 112 [W a, W b] (.b false :: []) =
  some (.tuple #[W (dn (Dg (dn (Dg (tI (W a))) + dn (Dg (tI (W b))) + 0))), .bool false],
    [P1 [W a],
     P1 [W b],
     plusP [Dg (tI (W a)), Dg (tI (W b)), .int .u64 0],
     D1P [Dg (dn (Dg (tI (W a))) + dn (Dg (tI (W b))) + 0)],
     P1 [W a],
     P1 [W b],
     ((decide (tI (W a) < 0)) == (decide (tI (W b) < 0))) = false]) := by kernel_rfl

theorem add_gives (args : List Value) (h : P2 args) : Gives P 112 args.toArray (addV args) := by
  unfold P2 at h
  split at h
  · obtain ⟨⟨a, rfl⟩, ⟨b, rfl⟩⟩ := h
    cases q1 : ((decide (tI (W a) < 0)) == (decide (tI (W b) < 0))) with
    | true =>
      refine gives_of_run mo (add_run0 a b) (ps_cons (P1_W _) (ps_cons (P1_W _) (ps_cons ⟨isD _, isD _, by decide, by decide⟩ (ps_cons (isD _) (ps_cons (P1_W _) (ps_cons (P1_W _) (ps_cons q1 (ps_cons (P1_W _) (ps_cons (P1_W _) ps_nil))))))))) ?_
      have e : W (dn (Dg (dn (Dg (tI (W a))) + dn (Dg (tI (W b))) + 0))) = W (bm a + bm b) := by
        simp only [dn_Dg, tI_W]
        exact add_W a b
      simp only [addV, e]
      simp only [tI_W] at *
      congr 1
      rw [over_same (bm_range a) (bm_range b) q1]
    | false =>
      refine gives_of_run mo (add_run1 a b) (ps_cons (P1_W _) (ps_cons (P1_W _) (ps_cons ⟨isD _, isD _, by decide, by decide⟩ (ps_cons (isD _) (ps_cons (P1_W _) (ps_cons (P1_W _) (ps_cons q1 ps_nil))))))) ?_
      have e : W (dn (Dg (dn (Dg (tI (W a))) + dn (Dg (tI (W b))) + 0))) = W (bm a + bm b) := by
        simp only [dn_Dg, tI_W]
        exact add_W a b
      simp only [addV, e]
      simp only [tI_W] at *
      congr 1
      rw [over_unlike (bm_range a) (bm_range b) q1]
  · exact h.elim
noncomputable def add : Ctr P := ⟨112, P2, addV, add_gives⟩
theorem sub_run0 (a b : Int) : runF P F1 1 137 [W a, W b] (.b true :: []) =
  some (.tuple #[W (dn (Dg (dn (Dg (tI (W a))) + dn (Dg (-1 - dn (Dg (tI (W b))))) + 1))), .bool ((decide (tI (W (dn (Dg (dn (Dg (tI (W a))) + dn (Dg (-1 - dn (Dg (tI (W b))))) + 1)))) < 0)) != (decide (tI (W a) < 0)))],
    [P1 [W a],
     P1 [W b],
     D1P [Dg (tI (W b))],
     plusP [Dg (tI (W a)), Dg (-1 - dn (Dg (tI (W b)))), .int .u64 1],
     D1P [Dg (dn (Dg (tI (W a))) + dn (Dg (-1 - dn (Dg (tI (W b))))) + 1)],
     P1 [W a],
     P1 [W b],
     ((decide (tI (W a) < 0)) != (decide (tI (W b) < 0))) = true,
     P1 [W (dn (Dg (dn (Dg (tI (W a))) + dn (Dg (-1 - dn (Dg (tI (W b))))) + 1)))],
     P1 [W a]]) := by kernel_rfl

theorem sub_run1 (a b : Int) : runF P F1 1 137 [W a, W b] (.b false :: []) =
  some (.tuple #[W (dn (Dg (dn (Dg (tI (W a))) + dn (Dg (-1 - dn (Dg (tI (W b))))) + 1))), .bool false],
    [P1 [W a],
     P1 [W b],
     D1P [Dg (tI (W b))],
     plusP [Dg (tI (W a)), Dg (-1 - dn (Dg (tI (W b)))), .int .u64 1],
     D1P [Dg (dn (Dg (tI (W a))) + dn (Dg (-1 - dn (Dg (tI (W b))))) + 1)],
     P1 [W a],
     P1 [W b],
     ((decide (tI (W a) < 0)) != (decide (tI (W b) < 0))) = false]) := by kernel_rfl

theorem sub_gives (args : List Value) (h : P2 args) : Gives P 137 args.toArray (subV args) := by
  unfold P2 at h
  split at h
  · obtain ⟨⟨a, rfl⟩, ⟨b, rfl⟩⟩ := h
    cases q1 : ((decide (tI (W a) < 0)) != (decide (tI (W b) < 0))) with
    | true =>
      refine gives_of_run mo (sub_run0 a b) (ps_cons (P1_W _) (ps_cons (P1_W _) (ps_cons (isD _) (ps_cons ⟨isD _, isD _, by decide, by decide⟩ (ps_cons (isD _) (ps_cons (P1_W _) (ps_cons (P1_W _) (ps_cons q1 (ps_cons (P1_W _) (ps_cons (P1_W _) ps_nil)))))))))) ?_
      have e : W (dn (Dg (dn (Dg (tI (W a))) + dn (Dg (-1 - dn (Dg (tI (W b))))) + 1))) = W (bm a - bm b) := by
        simp only [dn_Dg, tI_W]
        exact sub_W' a b
      simp only [subV, e]
      simp only [tI_W] at *
      congr 1
      rw [sub_over (bm_range a) (bm_range b) q1]
    | false =>
      refine gives_of_run mo (sub_run1 a b) (ps_cons (P1_W _) (ps_cons (P1_W _) (ps_cons (isD _) (ps_cons ⟨isD _, isD _, by decide, by decide⟩ (ps_cons (isD _) (ps_cons (P1_W _) (ps_cons (P1_W _) (ps_cons q1 ps_nil)))))))) ?_
      have e : W (dn (Dg (dn (Dg (tI (W a))) + dn (Dg (-1 - dn (Dg (tI (W b))))) + 1))) = W (bm a - bm b) := by
        simp only [dn_Dg, tI_W]
        exact sub_W' a b
      simp only [subV, e]
      simp only [tI_W] at *
      congr 1
      rw [sub_under (bm_range a) (bm_range b) q1]
  · exact h.elim
noncomputable def sub : Ctr P := ⟨137, P2, subV, sub_gives⟩

/-! ### Of, Int -/
theorem of_neg {n : Int} (h : I64 n) (q : decide (n < 0) = true) : (.agg #[.int .u64 (IntKind.u64.wrap n), .int .u64 18446744073709551615, .int .u64 18446744073709551615, .int .u64 18446744073709551615] : Value) = W n := by
  have q := of_decide_eq_true q
  unfold I64 at h
  refine W_of ?_ ?_ ?_ ?_ ?_ ?_ ?_ ?_ ?_ <;> first | (rw [wrap_u64]; simp only [BB, B2, B3, MM]; omega) | (simp only [BB]; omega) | omega
theorem of_pos {n : Int} (h : I64 n) (q : decide (n < 0) = false) : (.agg #[.int .u64 (IntKind.u64.wrap n), .int .u64 0, .int .u64 0, .int .u64 0] : Value) = W n := by
  have q := of_decide_eq_false q
  unfold I64 at h
  refine W_of ?_ ?_ ?_ ?_ ?_ ?_ ?_ ?_ ?_ <;> first | (rw [wrap_u64]; simp only [BB, B2, B3, MM]; omega) | (simp only [BB]; omega) | omega
theorem of_run0 (n : Int) : runF P F1 1 46 [.int .i64 n] (.lit :: (.lit :: (.b true :: (.lit :: (.lit :: (.b true :: (.lit :: (.lit :: (.b true :: []))))))))) =
  some (.agg #[.int .u64 (IntKind.u64.wrap n), .int .u64 18446744073709551615, .int .u64 18446744073709551615, .int .u64 18446744073709551615],
    [(decide (n < 0)) = true,
     (decide (n < 0)) = true,
     (decide (n < 0)) = true]) := by kernel_rfl

theorem of_run1 (n : Int) : runF P F1 1 46 [.int .i64 n] (.lit :: (.lit :: (.b false :: []))) =
  some (.agg #[.int .u64 (IntKind.u64.wrap n), .int .u64 0, .int .u64 0, .int .u64 0],
    [(decide (n < 0)) = false]) := by kernel_rfl

theorem of_gives (args : List Value) (h : ofP args) : Gives P 46 args.toArray (ofV args) := by
  unfold ofP at h
  split at h
  · rename_i n
    cases q1 : (decide (n < 0)) with
    | true =>
      refine gives_of_run mo (of_run0 n) (ps_cons q1 (ps_cons q1 (ps_cons q1 ps_nil))) ?_
      exact of_neg h q1
    | false =>
      refine gives_of_run mo (of_run1 n) (ps_cons q1 ps_nil) ?_
      exact of_pos h q1
  · exact h.elim
noncomputable def of : Ctr P := ⟨46, ofP, ofV, of_gives⟩
noncomputable def F2 : Env P := ⟨[digits, wide, low, not, plus, neg, add, sub, of], [], 10, []⟩
theorem weq_comm (m n : Int) : weq m n = weq n m := by rw [weq_eq, weq_eq, decide_eq_decide]; exact eq_comm
theorem int_run0 (a : Int) : runF P F2 1 49 [W a] (.b true :: []) =
  some (.tuple #[.int .i64 0, .bool false],
    [ofP [.int .i64 (IntKind.i64.wrap (w0 a))],
     (!(weq (IntKind.i64.wrap (w0 a)) a)) = true]) := by kernel_rfl

theorem int_run1 (a : Int) : runF P F2 1 49 [W a] (.b false :: []) =
  some (.tuple #[.int .i64 (IntKind.i64.wrap (w0 a)), .bool true],
    [ofP [.int .i64 (IntKind.i64.wrap (w0 a))],
     (!(weq (IntKind.i64.wrap (w0 a)) a)) = false]) := by kernel_rfl

theorem int_gives (args : List Value) (h : P1 args) : Gives P 49 args.toArray (intV args) := by
  unfold P1 at h
  split at h
  · obtain ⟨a, rfl⟩ := h
    cases q1 : (!(weq (IntKind.i64.wrap (w0 a)) a)) with
    | true =>
      refine gives_of_run mo (int_run0 a) (ps_cons (wrap_i64_range _) (ps_cons q1 ps_nil)) ?_
      have hw : weq (IntKind.i64.wrap (w0 a)) a = false := by simpa using q1
      simp only [intV, tI_W]
      have hb : i64B (bm a) = false := by
        cases hc : i64B (bm a) with
        | false => rfl
        | true =>
          have := (l64_spec a).1.2 hc
          rw [weq_comm, show IntKind.i64.wrap (w0 a) = l64 a from rfl, this] at hw
          cases hw
      rw [hb]
      rfl
    | false =>
      refine gives_of_run mo (int_run1 a) (ps_cons (wrap_i64_range _) (ps_cons q1 ps_nil)) ?_
      have hw : weq (IntKind.i64.wrap (w0 a)) a = true := by simpa using q1
      simp only [intV, tI_W]
      rw [weq_comm] at hw
      have hb := (l64_spec a).1.1 hw
      rw [hb, ← (l64_spec a).2 hb]
      rfl
  · exact h.elim
noncomputable def int : Ctr P := ⟨49, P1, intV, int_gives⟩

/-! ### size -/
def absI (n : Int) : Int := if n < 0 then -n else n
def sizeV : List Value → Value
  | [x] => Dg (absI (tI x))
  | _ => undef
theorem size_run0 (a : Int) : runF P F2 1 77 [W a] (.b true :: []) =
  some (Dg (tI (W (-tI (W a)))),
    [P1 [W a],
     (decide (tI (W a) < 0)) = true,
     P1 [W a],
     P1 [W (-tI (W a))]]) := by kernel_rfl

theorem size_run1 (a : Int) : runF P F2 1 77 [W a] (.b false :: []) =
  some (Dg (tI (W a)),
    [P1 [W a],
     (decide (tI (W a) < 0)) = false,
     P1 [W a]]) := by kernel_rfl

theorem size_gives (args : List Value) (h : P1 args) : Gives P 77 args.toArray (sizeV args) := by
  unfold P1 at h
  split at h
  · obtain ⟨a, rfl⟩ := h
    cases q1 : (decide (tI (W a) < 0)) with
    | true =>
      refine gives_of_run mo (size_run0 a) (ps_cons (P1_W _) (ps_cons q1 (ps_cons (P1_W _) (ps_cons (P1_W _) ps_nil)))) ?_
      simp only [sizeV, tI_W] at *
      have q := of_decide_eq_true q1
      unfold absI
      rw [if_pos q]
      exact Dg_congr (bm_mod _)
    | false =>
      refine gives_of_run mo (size_run1 a) (ps_cons (P1_W _) (ps_cons q1 (ps_cons (P1_W _) ps_nil))) ?_
      simp only [sizeV, tI_W] at *
      have q := of_decide_eq_false q1
      unfold absI
      rw [if_neg q]
  · exact h.elim
noncomputable def size : Ctr P := ⟨77, P1, sizeV, size_gives⟩

/-! ### Cmp, Sign -/
theorem bm_w (n : Int) : bm n = w0 n + BB * w1 n + B2 * w2 n + B3 * w3 n - (if bm n < 0 then MM else 0) := by
  have e := words_sum n
  have hm := bm_mod n
  have hr := bm_range n
  unfold InR at hr
  simp only [BB, B2, B3, MM, HH] at *
  split <;> omega
theorem cmp_run0 (a b : Int) : runF P F2 1 32 [W a, W b] (.b true :: (.b true :: [])) =
  some (.int .i64 (-1),
    [P1 [W a],
     P1 [W b],
     ((decide (tI (W a) < 0)) != (decide (tI (W b) < 0))) = true,
     P1 [W a],
     (decide (tI (W a) < 0)) = true]) := by kernel_rfl

theorem cmp_run1 (a b : Int) : runF P F2 1 32 [W a, W b] (.b false :: (lits 4 (.b true :: []))) =
  some (.int .i64 (-1),
    [P1 [W a],
     P1 [W b],
     ((decide (tI (W a) < 0)) != (decide (tI (W b) < 0))) = false,
     (decide (w3 a < w3 b)) = true]) := by kernel_rfl

theorem cmp_run2 (a b : Int) : runF P F2 1 32 [W a, W b] (.b false :: (lits 4 (.b false :: (.lit :: (.lit :: (.b true :: [])))))) =
  some (.int .i64 1,
    [P1 [W a],
     P1 [W b],
     ((decide (tI (W a) < 0)) != (decide (tI (W b) < 0))) = false,
     (decide (w3 a < w3 b)) = false,
     (decide (w3 a > w3 b)) = true]) := by kernel_rfl

theorem cmp_run3 (a b : Int) : runF P F2 1 32 [W a, W b] (.b false :: (lits 4 (.b false :: (.lit :: (.lit :: (.b false :: (.lit :: (.lit :: (.lit :: (.b true :: [])))))))))) =
  some (.int .i64 (-1),
    [P1 [W a],
     P1 [W b],
     ((decide (tI (W a) < 0)) != (decide (tI (W b) < 0))) = false,
     (decide (w3 a < w3 b)) = false,
     (decide (w3 a > w3 b)) = false,
     (decide (w2 a < w2 b)) = true]) := by kernel_rfl

theorem cmp_run4 (a b : Int) : runF P F2 1 32 [W a, W b] (.b false :: (lits 4 (.b false :: (.lit :: (.lit :: (.b false :: (.lit :: (.lit :: (.lit :: (.b false :: (.lit :: (.lit :: (.b true :: []))))))))))))) =
  some (.int .i64 1,
    [P1 [W a],
     P1 [W b],
     ((decide (tI (W a) < 0)) != (decide (tI (W b) < 0))) = false,
     (decide (w3 a < w3 b)) = false,
     (decide (w3 a > w3 b)) = false,
     (decide (w2 a < w2 b)) = false,
     (decide (w2 a > w2 b)) = true]) := by kernel_rfl

theorem cmp_run5 (a b : Int) : runF P F2 1 32 [W a, W b] (.b false :: (lits 4 (.b false :: (.lit :: (.lit :: (.b false :: (.lit :: (.lit :: (.lit :: (.b false :: (.lit :: (.lit :: (.b false :: (.lit :: (.lit :: (.lit :: (.b true :: []))))))))))))))))) =
  some (.int .i64 (-1),
    [P1 [W a],
     P1 [W b],
     ((decide (tI (W a) < 0)) != (decide (tI (W b) < 0))) = false,
     (decide (w3 a < w3 b)) = false,
     (decide (w3 a > w3 b)) = false,
     (decide (w2 a < w2 b)) = false,
     (decide (w2 a > w2 b)) = false,
     (decide (w1 a < w1 b)) = true]) := by kernel_rfl

theorem cmp_run6 (a b : Int) : runF P F2 1 32 [W a, W b] (.b false :: (lits 4 (.b false :: (.lit :: (.lit :: (.b false :: (.lit :: (.lit :: (.lit :: (.b false :: (.lit :: (.lit :: (.b false :: (.lit :: (.lit :: (.lit :: (.b false :: (.lit :: (.lit :: (.b true :: [])))))))))))))))))))) =
  some (.int .i64 1,
    [P1 [W a],
     P1 [W b],
     ((decide (tI (W a) < 0)) != (decide (tI (W b) < 0))) = false,
     (decide (w3 a < w3 b)) = false,
     (decide (w3 a > w3 b)) = false,
     (decide (w2 a < w2 b)) = false,
     (decide (w2 a > w2 b)) = false,
     (decide (w1 a < w1 b)) = false,
     (decide (w1 a > w1 b)) = true]) := by kernel_rfl

theorem cmp_run7 (a b : Int) : runF P F2 1 32 [W a, W b] (.b false :: (lits 4 (.b false :: (.lit :: (.lit :: (.b false :: (.lit :: (.lit :: (.lit :: (.b false :: (.lit :: (.lit :: (.b false :: (.lit :: (.lit :: (.lit :: (.b false :: (.lit :: (.lit :: (.b false :: (.lit :: (.lit :: (.lit :: (.b true :: [])))))))))))))))))))))))) =
  some (.int .i64 (-1),
    [P1 [W a],
     P1 [W b],
     ((decide (tI (W a) < 0)) != (decide (tI (W b) < 0))) = false,
     (decide (w3 a < w3 b)) = false,
     (decide (w3 a > w3 b)) = false,
     (decide (w2 a < w2 b)) = false,
     (decide (w2 a > w2 b)) = false,
     (decide (w1 a < w1 b)) = false,
     (decide (w1 a > w1 b)) = false,
     (decide (w0 a < w0 b)) = true]) := by kernel_rfl

theorem cmp_run8 (a b : Int) : runF P F2 1 32 [W a, W b] (.b false :: (lits 4 (.b false :: (.lit :: (.lit :: (.b false :: (.lit :: (.lit :: (.lit :: (.b false :: (.lit :: (.lit :: (.b false :: (.lit :: (.lit :: (.lit :: (.b false :: (.lit :: (.lit :: (.b false :: (.lit :: (.lit :: (.lit :: (.b false :: (.lit :: (.lit :: (.b true :: []))))))))))))))))))))))))))) =
  some (.int .i64 1,
    [P1 [W a],
     P1 [W b],
     ((decide (tI (W a) < 0)) != (decide (tI (W b) < 0))) = false,
     (decide (w3 a < w3 b)) = false,
     (decide (w3 a > w3 b)) = false,
     (decide (w2 a < w2 b)) = false,
     (decide (w2 a > w2 b)) = false,
     (decide (w1 a < w1 b)) = false,
     (decide (w1 a > w1 b)) = false,
     (decide (w0 a < w0 b)) = false,
     (decide (w0 a > w0 b)) = true]) := by kernel_rfl

theorem cmp_run9 (a b : Int) : runF P F2 1 32 [W a, W b] (.b false :: (lits 4 (.b false :: (.lit :: (.lit :: (.b false :: (.lit :: (.lit :: (.lit :: (.b false :: (.lit :: (.lit :: (.b false :: (.lit :: (.lit :: (.lit :: (.b false :: (.lit :: (.lit :: (.b false :: (.lit :: (.lit :: (.lit :: (.b false :: (.lit :: (.lit :: (.b false :: []))))))))))))))))))))))))))) =
  some (.int .i64 0,
    [P1 [W a],
     P1 [W b],
     ((decide (tI (W a) < 0)) != (decide (tI (W b) < 0))) = false,
     (decide (w3 a < w3 b)) = false,
     (decide (w3 a > w3 b)) = false,
     (decide (w2 a < w2 b)) = false,
     (decide (w2 a > w2 b)) = false,
     (decide (w1 a < w1 b)) = false,
     (decide (w1 a > w1 b)) = false,
     (decide (w0 a < w0 b)) = false,
     (decide (w0 a > w0 b)) = false]) := by kernel_rfl

theorem cmp_run10 (a b : Int) : runF P F2 1 32 [W a, W b] (.b true :: (.b false :: [])) =
  some (.int .i64 1,
    [P1 [W a],
     P1 [W b],
     ((decide (tI (W a) < 0)) != (decide (tI (W b) < 0))) = true,
     P1 [W a],
     (decide (tI (W a) < 0)) = false]) := by kernel_rfl

theorem cmp_gives (args : List Value) (h : P2 args) : Gives P 32 args.toArray (cmpV args) := by
  unfold P2 at h
  split at h
  · obtain ⟨⟨a, rfl⟩, ⟨b, rfl⟩⟩ := h
    cases q1 : ((decide (tI (W a) < 0)) != (decide (tI (W b) < 0))) with
    | true =>
      cases q2 : (decide (tI (W a) < 0)) with
      | true =>
        refine gives_of_run mo (cmp_run0 a b) (ps_cons (P1_W _) (ps_cons (P1_W _) (ps_cons q1 (ps_cons (P1_W _) (ps_cons q2 ps_nil))))) ?_
        simp only [cmpV]
        simp only [tI_W] at *
        have x := bm_w a
        have y := bm_w b
        have a0 := w0_range a
        have a1 := w1_range a
        have a2 := w2_range a
        have a3 := w3_range a
        have b0 := w0_range b
        have b1 := w1_range b
        have b2 := w2_range b
        have b3 := w3_range b
        (try simp only [bne_iff_ne, ne_eq] at *)
        (try simp only [bne_eq_false_iff_eq] at *)
        (try simp only [decide_eq_decide] at *)
        (try simp only [decide_eq_true_iff] at *)
        (try simp only [decide_eq_false_iff_not] at *)
        unfold cmp3
        simp only [BB, B2, B3, MM] at *
        congr 1
        omega
      | false =>
        refine gives_of_run mo (cmp_run10 a b) (ps_cons (P1_W _) (ps_cons (P1_W _) (ps_cons q1 (ps_cons (P1_W _) (ps_cons q2 ps_nil))))) ?_
        simp only [cmpV]
        simp only [tI_W] at *
        have x := bm_w a
        have y := bm_w b
        have a0 := w0_range a
        have a1 := w1_range a
        have a2 := w2_range a
        have a3 := w3_range a
        have b0 := w0_range b
        have b1 := w1_range b
        have b2 := w2_range b
        have b3 := w3_range b
        (try simp only [bne_iff_ne, ne_eq] at *)
        (try simp only [bne_eq_false_iff_eq] at *)
        (try simp only [decide_eq_decide] at *)
        (try simp only [decide_eq_true_iff] at *)
        (try simp only [decide_eq_false_iff_not] at *)
        unfold cmp3
        simp only [BB, B2, B3, MM] at *
        congr 1
        omega
    | false =>
      cases q3 : (decide (w3 a < w3 b)) with
      | true =>
        refine gives_of_run mo (cmp_run1 a b) (ps_cons (P1_W _) (ps_cons (P1_W _) (ps_cons q1 (ps_cons q3 ps_nil)))) ?_
        simp only [cmpV]
        simp only [tI_W] at *
        have x := bm_w a
        have y := bm_w b
        have a0 := w0_range a
        have a1 := w1_range a
        have a2 := w2_range a
        have a3 := w3_range a
        have b0 := w0_range b
        have b1 := w1_range b
        have b2 := w2_range b
        have b3 := w3_range b
        (try simp only [bne_iff_ne, ne_eq] at *)
        (try simp only [bne_eq_false_iff_eq] at *)
        (try simp only [decide_eq_decide] at *)
        (try simp only [decide_eq_true_iff] at *)
        (try simp only [decide_eq_false_iff_not] at *)
        unfold cmp3
        simp only [BB, B2, B3, MM] at *
        congr 1
        omega
      | false =>
        cases q4 : (decide (w3 a > w3 b)) with
        | true =>
          refine gives_of_run mo (cmp_run2 a b) (ps_cons (P1_W _) (ps_cons (P1_W _) (ps_cons q1 (ps_cons q3 (ps_cons q4 ps_nil))))) ?_
          simp only [cmpV]
          simp only [tI_W] at *
          have x := bm_w a
          have y := bm_w b
          have a0 := w0_range a
          have a1 := w1_range a
          have a2 := w2_range a
          have a3 := w3_range a
          have b0 := w0_range b
          have b1 := w1_range b
          have b2 := w2_range b
          have b3 := w3_range b
          (try simp only [bne_iff_ne, ne_eq] at *)
          (try simp only [bne_eq_false_iff_eq] at *)
          (try simp only [decide_eq_decide] at *)
          (try simp only [decide_eq_true_iff] at *)
          (try simp only [decide_eq_false_iff_not] at *)
          unfold cmp3
          simp only [BB, B2, B3, MM] at *
          congr 1
          omega
        | false =>
          cases q5 : (decide (w2 a < w2 b)) with
          | true =>
            refine gives_of_run mo (cmp_run3 a b) (ps_cons (P1_W _) (ps_cons (P1_W _) (ps_cons q1 (ps_cons q3 (ps_cons q4 (ps_cons q5 ps_nil)))))) ?_
            simp only [cmpV]
            simp only [tI_W] at *
            have x := bm_w a
            have y := bm_w b
            have a0 := w0_range a
            have a1 := w1_range a
            have a2 := w2_range a
            have a3 := w3_range a
            have b0 := w0_range b
            have b1 := w1_range b
            have b2 := w2_range b
            have b3 := w3_range b
            (try simp only [bne_iff_ne, ne_eq] at *)
            (try simp only [bne_eq_false_iff_eq] at *)
            (try simp only [decide_eq_decide] at *)
            (try simp only [decide_eq_true_iff] at *)
            (try simp only [decide_eq_false_iff_not] at *)
            unfold cmp3
            simp only [BB, B2, B3, MM] at *
            congr 1
            omega
          | false =>
            cases q6 : (decide (w2 a > w2 b)) with
            | true =>
              refine gives_of_run mo (cmp_run4 a b) (ps_cons (P1_W _) (ps_cons (P1_W _) (ps_cons q1 (ps_cons q3 (ps_cons q4 (ps_cons q5 (ps_cons q6 ps_nil))))))) ?_
              simp only [cmpV]
              simp only [tI_W] at *
              have x := bm_w a
              have y := bm_w b
              have a0 := w0_range a
              have a1 := w1_range a
              have a2 := w2_range a
              have a3 := w3_range a
              have b0 := w0_range b
              have b1 := w1_range b
              have b2 := w2_range b
              have b3 := w3_range b
              (try simp only [bne_iff_ne, ne_eq] at *)
              (try simp only [bne_eq_false_iff_eq] at *)
              (try simp only [decide_eq_decide] at *)
              (try simp only [decide_eq_true_iff] at *)
              (try simp only [decide_eq_false_iff_not] at *)
              unfold cmp3
              simp only [BB, B2, B3, MM] at *
              congr 1
              omega
            | false =>
              cases q7 : (decide (w1 a < w1 b)) with
              | true =>
                refine gives_of_run mo (cmp_run5 a b) (ps_cons (P1_W _) (ps_cons (P1_W _) (ps_cons q1 (ps_cons q3 (ps_cons q4 (ps_cons q5 (ps_cons q6 (ps_cons q7 ps_nil)))))))) ?_
                simp only [cmpV]
                simp only [tI_W] at *
                have x := bm_w a
                have y := bm_w b
                have a0 := w0_range a
                have a1 := w1_range a
                have a2 := w2_range a
                have a3 := w3_range a
                have b0 := w0_range b
                have b1 := w1_range b
                have b2 := w2_range b
                have b3 := w3_range b
                (try simp only [bne_iff_ne, ne_eq] at *)
                (try simp only [bne_eq_false_iff_eq] at *)
                (try simp only [decide_eq_decide] at *)
                (try simp only [decide_eq_true_iff] at *)
                (try simp only [decide_eq_false_iff_not] at *)
                unfold cmp3
                simp only [BB, B2, B3, MM] at *
                congr 1
                omega
              | false =>
                cases q8 : (decide (w1 a > w1 b)) with
                | true =>
                  refine gives_of_run mo (cmp_run6 a b) (ps_cons (P1_W _) (ps_cons (P1_W _) (ps_cons q1 (ps_cons q3 (ps_cons q4 (ps_cons q5 (ps_cons q6 (ps_cons q7 (ps_cons q8 ps_nil))))))))) ?_
                  simp only [cmpV]
                  simp only [tI_W] at *
                  have x := bm_w a
                  have y := bm_w b
                  have a0 := w0_range a
                  have a1 := w1_range a
                  have a2 := w2_range a
                  have a3 := w3_range a
                  have b0 := w0_range b
                  have b1 := w1_range b
                  have b2 := w2_range b
                  have b3 := w3_range b
                  (try simp only [bne_iff_ne, ne_eq] at *)
                  (try simp only [bne_eq_false_iff_eq] at *)
                  (try simp only [decide_eq_decide] at *)
                  (try simp only [decide_eq_true_iff] at *)
                  (try simp only [decide_eq_false_iff_not] at *)
                  unfold cmp3
                  simp only [BB, B2, B3, MM] at *
                  congr 1
                  omega
                | false =>
                  cases q9 : (decide (w0 a < w0 b)) with
                  | true =>
                    refine gives_of_run mo (cmp_run7 a b) (ps_cons (P1_W _) (ps_cons (P1_W _) (ps_cons q1 (ps_cons q3 (ps_cons q4 (ps_cons q5 (ps_cons q6 (ps_cons q7 (ps_cons q8 (ps_cons q9 ps_nil)))))))))) ?_
                    simp only [cmpV]
                    simp only [tI_W] at *
                    have x := bm_w a
                    have y := bm_w b
                    have a0 := w0_range a
                    have a1 := w1_range a
                    have a2 := w2_range a
                    have a3 := w3_range a
                    have b0 := w0_range b
                    have b1 := w1_range b
                    have b2 := w2_range b
                    have b3 := w3_range b
                    (try simp only [bne_iff_ne, ne_eq] at *)
                    (try simp only [bne_eq_false_iff_eq] at *)
                    (try simp only [decide_eq_decide] at *)
                    (try simp only [decide_eq_true_iff] at *)
                    (try simp only [decide_eq_false_iff_not] at *)
                    unfold cmp3
                    simp only [BB, B2, B3, MM] at *
                    congr 1
                    omega
                  | false =>
                    cases q10 : (decide (w0 a > w0 b)) with
                    | true =>
                      refine gives_of_run mo (cmp_run8 a b) (ps_cons (P1_W _) (ps_cons (P1_W _) (ps_cons q1 (ps_cons q3 (ps_cons q4 (ps_cons q5 (ps_cons q6 (ps_cons q7 (ps_cons q8 (ps_cons q9 (ps_cons q10 ps_nil))))))))))) ?_
                      simp only [cmpV]
                      simp only [tI_W] at *
                      have x := bm_w a
                      have y := bm_w b
                      have a0 := w0_range a
                      have a1 := w1_range a
                      have a2 := w2_range a
                      have a3 := w3_range a
                      have b0 := w0_range b
                      have b1 := w1_range b
                      have b2 := w2_range b
                      have b3 := w3_range b
                      (try simp only [bne_iff_ne, ne_eq] at *)
                      (try simp only [bne_eq_false_iff_eq] at *)
                      (try simp only [decide_eq_decide] at *)
                      (try simp only [decide_eq_true_iff] at *)
                      (try simp only [decide_eq_false_iff_not] at *)
                      unfold cmp3
                      simp only [BB, B2, B3, MM] at *
                      congr 1
                      omega
                    | false =>
                      refine gives_of_run mo (cmp_run9 a b) (ps_cons (P1_W _) (ps_cons (P1_W _) (ps_cons q1 (ps_cons q3 (ps_cons q4 (ps_cons q5 (ps_cons q6 (ps_cons q7 (ps_cons q8 (ps_cons q9 (ps_cons q10 ps_nil))))))))))) ?_
                      simp only [cmpV]
                      simp only [tI_W] at *
                      have x := bm_w a
                      have y := bm_w b
                      have a0 := w0_range a
                      have a1 := w1_range a
                      have a2 := w2_range a
                      have a3 := w3_range a
                      have b0 := w0_range b
                      have b1 := w1_range b
                      have b2 := w2_range b
                      have b3 := w3_range b
                      (try simp only [bne_iff_ne, ne_eq] at *)
                      (try simp only [bne_eq_false_iff_eq] at *)
                      (try simp only [decide_eq_decide] at *)
                      (try simp only [decide_eq_true_iff] at *)
                      (try simp only [decide_eq_false_iff_not] at *)
                      unfold cmp3
                      simp only [BB, B2, B3, MM] at *
                      congr 1
                      omega
  · exact h.elim
noncomputable def cmp : Ctr P := ⟨32, P2, cmpV, cmp_gives⟩
noncomputable def F3 : Env P := ⟨[digits, wide, low, not, plus, neg, add, sub, of, int, size, cmp], [], 10, []⟩
theorem sign_run0 (a : Int) : runF P F3 1 109 [W a] [] =
  some (.int .i64 (cmp3 (tI (W a)) (tI (W 0))),
    [P2 [W a, W 0]]) := by kernel_rfl

theorem sign_gives (args : List Value) (h : P1 args) : Gives P 109 args.toArray (signV args) := by
  unfold P1 at h
  split at h
  · obtain ⟨a, rfl⟩ := h
    refine gives_of_run mo (sign_run0 a) (ps_cons (P2_W _ _) ps_nil) ?_
    simp only [signV, tI_W0]
  · exact h.elim
noncomputable def sign : Ctr P := ⟨109, P1, signV, sign_gives⟩
end Go.Rd
