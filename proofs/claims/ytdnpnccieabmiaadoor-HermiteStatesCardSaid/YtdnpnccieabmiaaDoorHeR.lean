/-
  Contracts of gyreref28. Printed by heT.py.
-/
import Derived.Test.YtdnpnccieabmiaaDoorHeC
import Derived.Test.YtdnpnccieabmiaaDoorTwA
import Derived.Test.YtdnpnccieabmiaaDoorRfc
set_option maxRecDepth 100000
namespace Go.He
open Go Go.RowKit Go.Sx Go.Nm Go.Wd Go.Qt Go.Proofs
theorem wrap_k (n m : Int) : IntKind.i64.wrap (n + 18446744073709551616 * m) = IntKind.i64.wrap n := by
  have e : ∀ n : Int, IntKind.i64.wrap n = if n % 18446744073709551616 ≥ 9223372036854775808 then n % 18446744073709551616 - 18446744073709551616 else n % 18446744073709551616 := fun n => by
    simp [IntKind.wrap, IntKind.signed, IntKind.bits]
  rw [e, e, Int.add_mul_emod_self_left]
theorem wrap_ex (n : Int) : ∃ k, IntKind.i64.wrap n = n + 18446744073709551616 * k := by
  have e : IntKind.i64.wrap n = if n % 18446744073709551616 ≥ 9223372036854775808 then n % 18446744073709551616 - 18446744073709551616 else n % 18446744073709551616 := by
    simp [IntKind.wrap, IntKind.signed, IntKind.bits]
  have d := Int.mul_ediv_add_emod n 18446744073709551616
  rw [e]
  by_cases h : n % 18446744073709551616 ≥ 9223372036854775808
  · rw [if_pos h]; exact ⟨-(n / 18446744073709551616) - 1, by omega⟩
  · rw [if_neg h]; exact ⟨-(n / 18446744073709551616), by omega⟩
theorem wmul_l (a b : Int) : IntKind.i64.wrap (IntKind.i64.wrap a * b) = IntKind.i64.wrap (a * b) := by
  obtain ⟨k, e⟩ := wrap_ex a
  rw [e, Int.add_mul, Int.mul_assoc, wrap_k]
theorem wmul_r (a b : Int) : IntKind.i64.wrap (a * IntKind.i64.wrap b) = IntKind.i64.wrap (a * b) := by
  rw [Int.mul_comm, wmul_l, Int.mul_comm]
theorem wadd_l (a b : Int) : IntKind.i64.wrap (IntKind.i64.wrap a + b) = IntKind.i64.wrap (a + b) := by
  obtain ⟨k, e⟩ := wrap_ex a
  rw [e, show a + 18446744073709551616 * k + b = a + b + 18446744073709551616 * k by omega, wrap_k]
theorem wadd_r (a b : Int) : IntKind.i64.wrap (a + IntKind.i64.wrap b) = IntKind.i64.wrap (a + b) := by
  rw [Int.add_comm, wadd_l, Int.add_comm]
theorem wsub_l (a b : Int) : IntKind.i64.wrap (IntKind.i64.wrap a - b) = IntKind.i64.wrap (a - b) := by
  obtain ⟨k, e⟩ := wrap_ex a
  rw [e, show a + 18446744073709551616 * k - b = a - b + 18446744073709551616 * k by omega, wrap_k]
theorem wsub_r (a b : Int) : IntKind.i64.wrap (a - IntKind.i64.wrap b) = IntKind.i64.wrap (a - b) := by
  obtain ⟨k, e⟩ := wrap_ex b
  rw [e, show a - (b + 18446744073709551616 * k) = a - b + 18446744073709551616 * (-k) by omega, wrap_k]
theorem wring : (∀ a b : Int, IntKind.i64.wrap (IntKind.i64.wrap a * b) = IntKind.i64.wrap (a * b)) ∧ (∀ a b : Int, IntKind.i64.wrap (a * IntKind.i64.wrap b) = IntKind.i64.wrap (a * b)) ∧ (∀ a b : Int, IntKind.i64.wrap (IntKind.i64.wrap a + b) = IntKind.i64.wrap (a + b)) ∧ (∀ a b : Int, IntKind.i64.wrap (a + IntKind.i64.wrap b) = IntKind.i64.wrap (a + b)) ∧ (∀ a b : Int, IntKind.i64.wrap (IntKind.i64.wrap a - b) = IntKind.i64.wrap (a - b)) ∧ (∀ a b : Int, IntKind.i64.wrap (a - IntKind.i64.wrap b) = IntKind.i64.wrap (a - b)) :=
  ⟨wmul_l, wmul_r, wadd_l, wadd_r, wsub_l, wsub_r⟩
theorem wr_of {n p : Int} (e : n = p) (h : I64 p) : IntKind.i64.wrap n = p := by subst e; unfold I64 at h; exact wr h.1 (by omega)
def rkA (h t : Int) : Int := IntKind.i64.wrap (IntKind.i64.wrap (IntKind.i64.wrap ((IntKind.i64.wrap ((IntKind.i64.wrap (2 * t)) * t)) * t) - (IntKind.i64.wrap ((IntKind.i64.wrap ((IntKind.i64.wrap (3 * t)) * t)) * h))) + (IntKind.i64.wrap ((IntKind.i64.wrap (h * h)) * h)))
theorem rkA_eq {h t : Int} (r : I64 (pA h t)) : rkA h t = pA h t := by
  unfold rkA
  simp only [wring]
  exact wr_of (by unfold pA; grind) r
def rkB (h t : Int) : Int := IntKind.i64.wrap ((IntKind.i64.wrap (IntKind.i64.wrap (IntKind.i64.wrap ((IntKind.i64.wrap (t * t)) * t) - (IntKind.i64.wrap ((IntKind.i64.wrap ((IntKind.i64.wrap (2 * t)) * t)) * h))) + (IntKind.i64.wrap ((IntKind.i64.wrap (t * h)) * h)))) * h)
theorem rkB_eq {h t : Int} (r : I64 (pB h t)) : rkB h t = pB h t := by
  unfold rkB
  simp only [wring]
  exact wr_of (by unfold pB; grind) r
def rkC (h t : Int) : Int := IntKind.i64.wrap (IntKind.i64.wrap ((IntKind.i64.wrap ((IntKind.i64.wrap (3 * t)) * t)) * h) - (IntKind.i64.wrap ((IntKind.i64.wrap ((IntKind.i64.wrap (2 * t)) * t)) * t)))
theorem rkC_eq {h t : Int} (r : I64 (pC h t)) : rkC h t = pC h t := by
  unfold rkC
  simp only [wring]
  exact wr_of (by unfold pC; grind) r
def rkD (h t : Int) : Int := IntKind.i64.wrap ((IntKind.i64.wrap (IntKind.i64.wrap ((IntKind.i64.wrap (t * t)) * t) - (IntKind.i64.wrap ((IntKind.i64.wrap (t * t)) * h)))) * h)
theorem rkD_eq {h t : Int} (r : I64 (pD h t)) : rkD h t = pD h t := by
  unfold rkD
  simp only [wring]
  exact wr_of (by unfold pD; grind) r
def rjA (h t : Int) : Int := IntKind.i64.wrap (IntKind.i64.wrap ((IntKind.i64.wrap (6 * t)) * t) - (IntKind.i64.wrap ((IntKind.i64.wrap (6 * t)) * h)))
theorem rjA_eq {h t : Int} (r : I64 (qA h t)) : rjA h t = qA h t := by
  unfold rjA
  simp only [wring]
  exact wr_of (by unfold qA; grind) r
def rjB (h t : Int) : Int := IntKind.i64.wrap ((IntKind.i64.wrap (IntKind.i64.wrap (IntKind.i64.wrap ((IntKind.i64.wrap (3 * t)) * t) - (IntKind.i64.wrap ((IntKind.i64.wrap (4 * t)) * h))) + (IntKind.i64.wrap (h * h)))) * h)
theorem rjB_eq {h t : Int} (r : I64 (qB h t)) : rjB h t = qB h t := by
  unfold rjB
  simp only [wring]
  exact wr_of (by unfold qB; grind) r
def rjC (h t : Int) : Int := IntKind.i64.wrap (IntKind.i64.wrap ((IntKind.i64.wrap (6 * t)) * h) - (IntKind.i64.wrap ((IntKind.i64.wrap (6 * t)) * t)))
theorem rjC_eq {h t : Int} (r : I64 (qC h t)) : rjC h t = qC h t := by
  unfold rjC
  simp only [wring]
  exact wr_of (by unfold qC; grind) r
def rjD (h t : Int) : Int := IntKind.i64.wrap ((IntKind.i64.wrap (IntKind.i64.wrap ((IntKind.i64.wrap (3 * t)) * t) - (IntKind.i64.wrap ((IntKind.i64.wrap (2 * t)) * h)))) * h)
theorem rjD_eq {h t : Int} (r : I64 (qD h t)) : rjD h t = qD h t := by
  unfold rjD
  simp only [wring]
  exact wr_of (by unfold qD; grind) r
noncomputable def G0 : Env P := ⟨⟨[], []⟩, [], 20, []⟩
theorem kw0_leaf (h t : Int)  (q0 : (decide (h ≥ 1)) = true) (q1 : (decide (h ≤ 4096)) = true) (q2 : (decide (t ≥ 0)) = true) (q3 : (decide (t ≤ h)) = true) : Gives P 11 #[.int .i64 h, .int .i64 t] (.tuple #[.agg #[.int .i64 (weI pA h t), .int .i64 (weI pB h t), .int .i64 (weI pC h t), .int .i64 (weI pD h t)], .int .i64 (weE h t)]) := by
  refine gives_of_run (E := G0) (lv := 2) (ds := (.b true :: (.b false :: (.b true :: (.b false :: []))))) (v := .tuple #[.agg #[.int .i64 (rkA h t), .int .i64 (rkB h t), .int .i64 (rkC h t), .int .i64 (rkD h t)], .int .i64 0]) (ps := [(decide (h ≥ 1)) = true, (!(decide (h ≤ 4096))) = false, (decide (t ≥ 0)) = true, (!(decide (t ≤ h))) = false]) mo (by kernel_rfl) (ps_cons q0 (ps_cons (neg_f q1) (ps_cons q2 (ps_cons (neg_f q3) ps_nil)))) ?_
  have m : mayB 0 0 0 0 h t = true := may_zero.2 (by have := of_decide_eq_true q0; have := of_decide_eq_true q1; have := of_decide_eq_true q2; have := of_decide_eq_true q3; omega)
  have z := may_zero.1 m
  have K := wrs z.1 z.2.1 z.2.2.1 z.2.2.2
  rw [rkA_eq K.rA, rkB_eq K.rB, rkC_eq K.rC, rkD_eq K.rD]
  unfold weI weE
  rw [m]
  rfl
theorem kw1_leaf (h t : Int)  (q0 : (decide (h ≥ 1)) = false) : Gives P 11 #[.int .i64 h, .int .i64 t] (.tuple #[.agg #[.int .i64 (weI pA h t), .int .i64 (weI pB h t), .int .i64 (weI pC h t), .int .i64 (weI pD h t)], .int .i64 (weE h t)]) := by
  refine gives_of_run (E := G0) (lv := 2) (ds := (.b false :: [])) (v := .tuple #[.agg #[.int .i64 0, .int .i64 0, .int .i64 0, .int .i64 0], .int .i64 2]) (ps := [(decide (h ≥ 1)) = false]) mo (by kernel_rfl) (ps_cons q0 ps_nil) ?_
  have m : mayB 0 0 0 0 h t = false := by
    rw [← Bool.not_eq_true]
    intro m
    have z := may_zero.1 m
    have := of_decide_eq_false q0; omega
  unfold weI weE
  rw [m]
  rfl
theorem kw2_leaf (h t : Int)  (q0 : (decide (h ≥ 1)) = true) (q1 : (decide (h ≤ 4096)) = false) : Gives P 11 #[.int .i64 h, .int .i64 t] (.tuple #[.agg #[.int .i64 (weI pA h t), .int .i64 (weI pB h t), .int .i64 (weI pC h t), .int .i64 (weI pD h t)], .int .i64 (weE h t)]) := by
  refine gives_of_run (E := G0) (lv := 2) (ds := (.b true :: (.b true :: []))) (v := .tuple #[.agg #[.int .i64 0, .int .i64 0, .int .i64 0, .int .i64 0], .int .i64 2]) (ps := [(decide (h ≥ 1)) = true, (!(decide (h ≤ 4096))) = true]) mo (by kernel_rfl) (ps_cons q0 (ps_cons (neg_t q1) ps_nil)) ?_
  have m : mayB 0 0 0 0 h t = false := by
    rw [← Bool.not_eq_true]
    intro m
    have z := may_zero.1 m
    have := of_decide_eq_true q0; have := of_decide_eq_false q1; omega
  unfold weI weE
  rw [m]
  rfl
theorem kw3_leaf (h t : Int)  (q0 : (decide (h ≥ 1)) = true) (q1 : (decide (h ≤ 4096)) = true) (q2 : (decide (t ≥ 0)) = false) : Gives P 11 #[.int .i64 h, .int .i64 t] (.tuple #[.agg #[.int .i64 (weI pA h t), .int .i64 (weI pB h t), .int .i64 (weI pC h t), .int .i64 (weI pD h t)], .int .i64 (weE h t)]) := by
  refine gives_of_run (E := G0) (lv := 2) (ds := (.b true :: (.b false :: (.b false :: [])))) (v := .tuple #[.agg #[.int .i64 0, .int .i64 0, .int .i64 0, .int .i64 0], .int .i64 2]) (ps := [(decide (h ≥ 1)) = true, (!(decide (h ≤ 4096))) = false, (decide (t ≥ 0)) = false]) mo (by kernel_rfl) (ps_cons q0 (ps_cons (neg_f q1) (ps_cons q2 ps_nil))) ?_
  have m : mayB 0 0 0 0 h t = false := by
    rw [← Bool.not_eq_true]
    intro m
    have z := may_zero.1 m
    have := of_decide_eq_true q0; have := of_decide_eq_true q1; have := of_decide_eq_false q2; omega
  unfold weI weE
  rw [m]
  rfl
theorem kw4_leaf (h t : Int)  (q0 : (decide (h ≥ 1)) = true) (q1 : (decide (h ≤ 4096)) = true) (q2 : (decide (t ≥ 0)) = true) (q3 : (decide (t ≤ h)) = false) : Gives P 11 #[.int .i64 h, .int .i64 t] (.tuple #[.agg #[.int .i64 (weI pA h t), .int .i64 (weI pB h t), .int .i64 (weI pC h t), .int .i64 (weI pD h t)], .int .i64 (weE h t)]) := by
  refine gives_of_run (E := G0) (lv := 2) (ds := (.b true :: (.b false :: (.b true :: (.b true :: []))))) (v := .tuple #[.agg #[.int .i64 0, .int .i64 0, .int .i64 0, .int .i64 0], .int .i64 2]) (ps := [(decide (h ≥ 1)) = true, (!(decide (h ≤ 4096))) = false, (decide (t ≥ 0)) = true, (!(decide (t ≤ h))) = true]) mo (by kernel_rfl) (ps_cons q0 (ps_cons (neg_f q1) (ps_cons q2 (ps_cons (neg_t q3) ps_nil)))) ?_
  have m : mayB 0 0 0 0 h t = false := by
    rw [← Bool.not_eq_true]
    intro m
    have z := may_zero.1 m
    have := of_decide_eq_true q0; have := of_decide_eq_true q1; have := of_decide_eq_true q2; have := of_decide_eq_false q3; omega
  unfold weI weE
  rw [m]
  rfl
theorem kw_gives (args : List Value) (hp : weP args) : Gives P 11 args.toArray (weV args) := by
  unfold weP at hp
  split at hp
  · rename_i h t
    show Gives P _ #[.int .i64 h, .int .i64 t] (.tuple #[.agg #[.int .i64 (weI pA h t), .int .i64 (weI pB h t), .int .i64 (weI pC h t), .int .i64 (weI pD h t)], .int .i64 (weE h t)])
    cases q0 : (decide (h ≥ 1)) with
    | true =>
      cases q1 : (decide (h ≤ 4096)) with
      | true =>
        cases q2 : (decide (t ≥ 0)) with
        | true =>
          cases q3 : (decide (t ≤ h)) with
          | true =>
            exact kw0_leaf h t  q0 q1 q2 q3
          | false =>
            exact kw4_leaf h t  q0 q1 q2 q3
        | false =>
          exact kw3_leaf h t  q0 q1 q2
      | false =>
        exact kw2_leaf h t  q0 q1
    | false =>
      exact kw1_leaf h t  q0
  · exact hp.elim
noncomputable def kWeights : Ctr P := ⟨11, weP, weV, kw_gives⟩
theorem km0_leaf (x v y w h t : Int)  (q0 : (decide (x ≥ -2097152)) = true) (q1 : (decide (x ≤ 2097152)) = true) (q2 : (decide (y ≥ -2097152)) = true) (q3 : (decide (y ≤ 2097152)) = true) (q4 : (decide (v ≥ -131072)) = true) (q5 : (decide (v ≤ 131072)) = true) (q6 : (decide (w ≥ -131072)) = true) (q7 : (decide (w ≤ 131072)) = true) (q8 : (decide (h ≥ 1)) = true) (q9 : (decide (h ≤ 4096)) = true) (q10 : (decide (t ≥ 0)) = true) : Gives P 18 #[.int .i64 x, .int .i64 v, .int .i64 y, .int .i64 w, .int .i64 h, .int .i64 t] (.bool (mayB x v y w h t)) := by
  refine gives_of_run (E := G0) (lv := 2) (ds := (.b true :: (.b true :: (.b true :: (.b true :: (.b true :: (.b true :: (.b true :: (.b true :: (.b true :: (.b true :: (.b true :: [])))))))))))) (v := .bool (decide (t ≤ h))) (ps := [(decide (x ≥ -2097152)) = true, (decide (x ≤ 2097152)) = true, (decide (y ≥ -2097152)) = true, (decide (y ≤ 2097152)) = true, (decide (v ≥ -131072)) = true, (decide (v ≤ 131072)) = true, (decide (w ≥ -131072)) = true, (decide (w ≤ 131072)) = true, (decide (h ≥ 1)) = true, (decide (h ≤ 4096)) = true, (decide (t ≥ 0)) = true]) mo (by kernel_rfl) (ps_cons q0 (ps_cons q1 (ps_cons q2 (ps_cons q3 (ps_cons q4 (ps_cons q5 (ps_cons q6 (ps_cons q7 (ps_cons q8 (ps_cons q9 (ps_cons q10 ps_nil))))))))))) ?_
  have z0 := of_decide_eq_true q0
  have z1 := of_decide_eq_true q1
  have z2 := of_decide_eq_true q2
  have z3 := of_decide_eq_true q3
  have z4 := of_decide_eq_true q4
  have z5 := of_decide_eq_true q5
  have z6 := of_decide_eq_true q6
  have z7 := of_decide_eq_true q7
  have z8 := of_decide_eq_true q8
  have z9 := of_decide_eq_true q9
  have z10 := of_decide_eq_true q10
  show Value.bool (decide (t ≤ h)) = _
  refine congrArg Value.bool ?_
  rw [Bool.eq_iff_iff, may_iff, decide_eq_true_eq]
  exact ⟨fun z => ⟨by omega, by omega, by omega, by omega, by omega, by omega, by omega, by omega, by omega, by omega, by omega, by omega⟩, fun m => m.t2⟩
theorem km1_leaf (x v y w h t : Int)  (q0 : (decide (x ≥ -2097152)) = false) : Gives P 18 #[.int .i64 x, .int .i64 v, .int .i64 y, .int .i64 w, .int .i64 h, .int .i64 t] (.bool (mayB x v y w h t)) := by
  refine gives_of_run (E := G0) (lv := 2) (ds := (.b false :: [])) (v := .bool false) (ps := [(decide (x ≥ -2097152)) = false]) mo (by kernel_rfl) (ps_cons q0 ps_nil) ?_
  have z0 := of_decide_eq_false q0
  have m : mayB x v y w h t = false := by
    rw [← Bool.not_eq_true]
    intro m
    have m := may_iff.1 m
    have := m.x1; have := m.x2; have := m.y1; have := m.y2; have := m.v1; have := m.v2; have := m.w1; have := m.w2; have := m.h1; have := m.h2; have := m.t1; have := m.t2
    omega
  rw [m]
theorem km2_leaf (x v y w h t : Int)  (q0 : (decide (x ≥ -2097152)) = true) (q1 : (decide (x ≤ 2097152)) = false) : Gives P 18 #[.int .i64 x, .int .i64 v, .int .i64 y, .int .i64 w, .int .i64 h, .int .i64 t] (.bool (mayB x v y w h t)) := by
  refine gives_of_run (E := G0) (lv := 2) (ds := (.b true :: (.b false :: []))) (v := .bool false) (ps := [(decide (x ≥ -2097152)) = true, (decide (x ≤ 2097152)) = false]) mo (by kernel_rfl) (ps_cons q0 (ps_cons q1 ps_nil)) ?_
  have z0 := of_decide_eq_true q0
  have z1 := of_decide_eq_false q1
  have m : mayB x v y w h t = false := by
    rw [← Bool.not_eq_true]
    intro m
    have m := may_iff.1 m
    have := m.x1; have := m.x2; have := m.y1; have := m.y2; have := m.v1; have := m.v2; have := m.w1; have := m.w2; have := m.h1; have := m.h2; have := m.t1; have := m.t2
    omega
  rw [m]
theorem km3_leaf (x v y w h t : Int)  (q0 : (decide (x ≥ -2097152)) = true) (q1 : (decide (x ≤ 2097152)) = true) (q2 : (decide (y ≥ -2097152)) = false) : Gives P 18 #[.int .i64 x, .int .i64 v, .int .i64 y, .int .i64 w, .int .i64 h, .int .i64 t] (.bool (mayB x v y w h t)) := by
  refine gives_of_run (E := G0) (lv := 2) (ds := (.b true :: (.b true :: (.b false :: [])))) (v := .bool false) (ps := [(decide (x ≥ -2097152)) = true, (decide (x ≤ 2097152)) = true, (decide (y ≥ -2097152)) = false]) mo (by kernel_rfl) (ps_cons q0 (ps_cons q1 (ps_cons q2 ps_nil))) ?_
  have z0 := of_decide_eq_true q0
  have z1 := of_decide_eq_true q1
  have z2 := of_decide_eq_false q2
  have m : mayB x v y w h t = false := by
    rw [← Bool.not_eq_true]
    intro m
    have m := may_iff.1 m
    have := m.x1; have := m.x2; have := m.y1; have := m.y2; have := m.v1; have := m.v2; have := m.w1; have := m.w2; have := m.h1; have := m.h2; have := m.t1; have := m.t2
    omega
  rw [m]
theorem km4_leaf (x v y w h t : Int)  (q0 : (decide (x ≥ -2097152)) = true) (q1 : (decide (x ≤ 2097152)) = true) (q2 : (decide (y ≥ -2097152)) = true) (q3 : (decide (y ≤ 2097152)) = false) : Gives P 18 #[.int .i64 x, .int .i64 v, .int .i64 y, .int .i64 w, .int .i64 h, .int .i64 t] (.bool (mayB x v y w h t)) := by
  refine gives_of_run (E := G0) (lv := 2) (ds := (.b true :: (.b true :: (.b true :: (.b false :: []))))) (v := .bool false) (ps := [(decide (x ≥ -2097152)) = true, (decide (x ≤ 2097152)) = true, (decide (y ≥ -2097152)) = true, (decide (y ≤ 2097152)) = false]) mo (by kernel_rfl) (ps_cons q0 (ps_cons q1 (ps_cons q2 (ps_cons q3 ps_nil)))) ?_
  have z0 := of_decide_eq_true q0
  have z1 := of_decide_eq_true q1
  have z2 := of_decide_eq_true q2
  have z3 := of_decide_eq_false q3
  have m : mayB x v y w h t = false := by
    rw [← Bool.not_eq_true]
    intro m
    have m := may_iff.1 m
    have := m.x1; have := m.x2; have := m.y1; have := m.y2; have := m.v1; have := m.v2; have := m.w1; have := m.w2; have := m.h1; have := m.h2; have := m.t1; have := m.t2
    omega
  rw [m]
theorem km5_leaf (x v y w h t : Int)  (q0 : (decide (x ≥ -2097152)) = true) (q1 : (decide (x ≤ 2097152)) = true) (q2 : (decide (y ≥ -2097152)) = true) (q3 : (decide (y ≤ 2097152)) = true) (q4 : (decide (v ≥ -131072)) = false) : Gives P 18 #[.int .i64 x, .int .i64 v, .int .i64 y, .int .i64 w, .int .i64 h, .int .i64 t] (.bool (mayB x v y w h t)) := by
  refine gives_of_run (E := G0) (lv := 2) (ds := (.b true :: (.b true :: (.b true :: (.b true :: (.b false :: [])))))) (v := .bool false) (ps := [(decide (x ≥ -2097152)) = true, (decide (x ≤ 2097152)) = true, (decide (y ≥ -2097152)) = true, (decide (y ≤ 2097152)) = true, (decide (v ≥ -131072)) = false]) mo (by kernel_rfl) (ps_cons q0 (ps_cons q1 (ps_cons q2 (ps_cons q3 (ps_cons q4 ps_nil))))) ?_
  have z0 := of_decide_eq_true q0
  have z1 := of_decide_eq_true q1
  have z2 := of_decide_eq_true q2
  have z3 := of_decide_eq_true q3
  have z4 := of_decide_eq_false q4
  have m : mayB x v y w h t = false := by
    rw [← Bool.not_eq_true]
    intro m
    have m := may_iff.1 m
    have := m.x1; have := m.x2; have := m.y1; have := m.y2; have := m.v1; have := m.v2; have := m.w1; have := m.w2; have := m.h1; have := m.h2; have := m.t1; have := m.t2
    omega
  rw [m]
theorem km6_leaf (x v y w h t : Int)  (q0 : (decide (x ≥ -2097152)) = true) (q1 : (decide (x ≤ 2097152)) = true) (q2 : (decide (y ≥ -2097152)) = true) (q3 : (decide (y ≤ 2097152)) = true) (q4 : (decide (v ≥ -131072)) = true) (q5 : (decide (v ≤ 131072)) = false) : Gives P 18 #[.int .i64 x, .int .i64 v, .int .i64 y, .int .i64 w, .int .i64 h, .int .i64 t] (.bool (mayB x v y w h t)) := by
  refine gives_of_run (E := G0) (lv := 2) (ds := (.b true :: (.b true :: (.b true :: (.b true :: (.b true :: (.b false :: []))))))) (v := .bool false) (ps := [(decide (x ≥ -2097152)) = true, (decide (x ≤ 2097152)) = true, (decide (y ≥ -2097152)) = true, (decide (y ≤ 2097152)) = true, (decide (v ≥ -131072)) = true, (decide (v ≤ 131072)) = false]) mo (by kernel_rfl) (ps_cons q0 (ps_cons q1 (ps_cons q2 (ps_cons q3 (ps_cons q4 (ps_cons q5 ps_nil)))))) ?_
  have z0 := of_decide_eq_true q0
  have z1 := of_decide_eq_true q1
  have z2 := of_decide_eq_true q2
  have z3 := of_decide_eq_true q3
  have z4 := of_decide_eq_true q4
  have z5 := of_decide_eq_false q5
  have m : mayB x v y w h t = false := by
    rw [← Bool.not_eq_true]
    intro m
    have m := may_iff.1 m
    have := m.x1; have := m.x2; have := m.y1; have := m.y2; have := m.v1; have := m.v2; have := m.w1; have := m.w2; have := m.h1; have := m.h2; have := m.t1; have := m.t2
    omega
  rw [m]
theorem km7_leaf (x v y w h t : Int)  (q0 : (decide (x ≥ -2097152)) = true) (q1 : (decide (x ≤ 2097152)) = true) (q2 : (decide (y ≥ -2097152)) = true) (q3 : (decide (y ≤ 2097152)) = true) (q4 : (decide (v ≥ -131072)) = true) (q5 : (decide (v ≤ 131072)) = true) (q6 : (decide (w ≥ -131072)) = false) : Gives P 18 #[.int .i64 x, .int .i64 v, .int .i64 y, .int .i64 w, .int .i64 h, .int .i64 t] (.bool (mayB x v y w h t)) := by
  refine gives_of_run (E := G0) (lv := 2) (ds := (.b true :: (.b true :: (.b true :: (.b true :: (.b true :: (.b true :: (.b false :: [])))))))) (v := .bool false) (ps := [(decide (x ≥ -2097152)) = true, (decide (x ≤ 2097152)) = true, (decide (y ≥ -2097152)) = true, (decide (y ≤ 2097152)) = true, (decide (v ≥ -131072)) = true, (decide (v ≤ 131072)) = true, (decide (w ≥ -131072)) = false]) mo (by kernel_rfl) (ps_cons q0 (ps_cons q1 (ps_cons q2 (ps_cons q3 (ps_cons q4 (ps_cons q5 (ps_cons q6 ps_nil))))))) ?_
  have z0 := of_decide_eq_true q0
  have z1 := of_decide_eq_true q1
  have z2 := of_decide_eq_true q2
  have z3 := of_decide_eq_true q3
  have z4 := of_decide_eq_true q4
  have z5 := of_decide_eq_true q5
  have z6 := of_decide_eq_false q6
  have m : mayB x v y w h t = false := by
    rw [← Bool.not_eq_true]
    intro m
    have m := may_iff.1 m
    have := m.x1; have := m.x2; have := m.y1; have := m.y2; have := m.v1; have := m.v2; have := m.w1; have := m.w2; have := m.h1; have := m.h2; have := m.t1; have := m.t2
    omega
  rw [m]
theorem km8_leaf (x v y w h t : Int)  (q0 : (decide (x ≥ -2097152)) = true) (q1 : (decide (x ≤ 2097152)) = true) (q2 : (decide (y ≥ -2097152)) = true) (q3 : (decide (y ≤ 2097152)) = true) (q4 : (decide (v ≥ -131072)) = true) (q5 : (decide (v ≤ 131072)) = true) (q6 : (decide (w ≥ -131072)) = true) (q7 : (decide (w ≤ 131072)) = false) : Gives P 18 #[.int .i64 x, .int .i64 v, .int .i64 y, .int .i64 w, .int .i64 h, .int .i64 t] (.bool (mayB x v y w h t)) := by
  refine gives_of_run (E := G0) (lv := 2) (ds := (.b true :: (.b true :: (.b true :: (.b true :: (.b true :: (.b true :: (.b true :: (.b false :: []))))))))) (v := .bool false) (ps := [(decide (x ≥ -2097152)) = true, (decide (x ≤ 2097152)) = true, (decide (y ≥ -2097152)) = true, (decide (y ≤ 2097152)) = true, (decide (v ≥ -131072)) = true, (decide (v ≤ 131072)) = true, (decide (w ≥ -131072)) = true, (decide (w ≤ 131072)) = false]) mo (by kernel_rfl) (ps_cons q0 (ps_cons q1 (ps_cons q2 (ps_cons q3 (ps_cons q4 (ps_cons q5 (ps_cons q6 (ps_cons q7 ps_nil)))))))) ?_
  have z0 := of_decide_eq_true q0
  have z1 := of_decide_eq_true q1
  have z2 := of_decide_eq_true q2
  have z3 := of_decide_eq_true q3
  have z4 := of_decide_eq_true q4
  have z5 := of_decide_eq_true q5
  have z6 := of_decide_eq_true q6
  have z7 := of_decide_eq_false q7
  have m : mayB x v y w h t = false := by
    rw [← Bool.not_eq_true]
    intro m
    have m := may_iff.1 m
    have := m.x1; have := m.x2; have := m.y1; have := m.y2; have := m.v1; have := m.v2; have := m.w1; have := m.w2; have := m.h1; have := m.h2; have := m.t1; have := m.t2
    omega
  rw [m]
theorem km9_leaf (x v y w h t : Int)  (q0 : (decide (x ≥ -2097152)) = true) (q1 : (decide (x ≤ 2097152)) = true) (q2 : (decide (y ≥ -2097152)) = true) (q3 : (decide (y ≤ 2097152)) = true) (q4 : (decide (v ≥ -131072)) = true) (q5 : (decide (v ≤ 131072)) = true) (q6 : (decide (w ≥ -131072)) = true) (q7 : (decide (w ≤ 131072)) = true) (q8 : (decide (h ≥ 1)) = false) : Gives P 18 #[.int .i64 x, .int .i64 v, .int .i64 y, .int .i64 w, .int .i64 h, .int .i64 t] (.bool (mayB x v y w h t)) := by
  refine gives_of_run (E := G0) (lv := 2) (ds := (.b true :: (.b true :: (.b true :: (.b true :: (.b true :: (.b true :: (.b true :: (.b true :: (.b false :: [])))))))))) (v := .bool false) (ps := [(decide (x ≥ -2097152)) = true, (decide (x ≤ 2097152)) = true, (decide (y ≥ -2097152)) = true, (decide (y ≤ 2097152)) = true, (decide (v ≥ -131072)) = true, (decide (v ≤ 131072)) = true, (decide (w ≥ -131072)) = true, (decide (w ≤ 131072)) = true, (decide (h ≥ 1)) = false]) mo (by kernel_rfl) (ps_cons q0 (ps_cons q1 (ps_cons q2 (ps_cons q3 (ps_cons q4 (ps_cons q5 (ps_cons q6 (ps_cons q7 (ps_cons q8 ps_nil))))))))) ?_
  have z0 := of_decide_eq_true q0
  have z1 := of_decide_eq_true q1
  have z2 := of_decide_eq_true q2
  have z3 := of_decide_eq_true q3
  have z4 := of_decide_eq_true q4
  have z5 := of_decide_eq_true q5
  have z6 := of_decide_eq_true q6
  have z7 := of_decide_eq_true q7
  have z8 := of_decide_eq_false q8
  have m : mayB x v y w h t = false := by
    rw [← Bool.not_eq_true]
    intro m
    have m := may_iff.1 m
    have := m.x1; have := m.x2; have := m.y1; have := m.y2; have := m.v1; have := m.v2; have := m.w1; have := m.w2; have := m.h1; have := m.h2; have := m.t1; have := m.t2
    omega
  rw [m]
theorem km10_leaf (x v y w h t : Int)  (q0 : (decide (x ≥ -2097152)) = true) (q1 : (decide (x ≤ 2097152)) = true) (q2 : (decide (y ≥ -2097152)) = true) (q3 : (decide (y ≤ 2097152)) = true) (q4 : (decide (v ≥ -131072)) = true) (q5 : (decide (v ≤ 131072)) = true) (q6 : (decide (w ≥ -131072)) = true) (q7 : (decide (w ≤ 131072)) = true) (q8 : (decide (h ≥ 1)) = true) (q9 : (decide (h ≤ 4096)) = false) : Gives P 18 #[.int .i64 x, .int .i64 v, .int .i64 y, .int .i64 w, .int .i64 h, .int .i64 t] (.bool (mayB x v y w h t)) := by
  refine gives_of_run (E := G0) (lv := 2) (ds := (.b true :: (.b true :: (.b true :: (.b true :: (.b true :: (.b true :: (.b true :: (.b true :: (.b true :: (.b false :: []))))))))))) (v := .bool false) (ps := [(decide (x ≥ -2097152)) = true, (decide (x ≤ 2097152)) = true, (decide (y ≥ -2097152)) = true, (decide (y ≤ 2097152)) = true, (decide (v ≥ -131072)) = true, (decide (v ≤ 131072)) = true, (decide (w ≥ -131072)) = true, (decide (w ≤ 131072)) = true, (decide (h ≥ 1)) = true, (decide (h ≤ 4096)) = false]) mo (by kernel_rfl) (ps_cons q0 (ps_cons q1 (ps_cons q2 (ps_cons q3 (ps_cons q4 (ps_cons q5 (ps_cons q6 (ps_cons q7 (ps_cons q8 (ps_cons q9 ps_nil)))))))))) ?_
  have z0 := of_decide_eq_true q0
  have z1 := of_decide_eq_true q1
  have z2 := of_decide_eq_true q2
  have z3 := of_decide_eq_true q3
  have z4 := of_decide_eq_true q4
  have z5 := of_decide_eq_true q5
  have z6 := of_decide_eq_true q6
  have z7 := of_decide_eq_true q7
  have z8 := of_decide_eq_true q8
  have z9 := of_decide_eq_false q9
  have m : mayB x v y w h t = false := by
    rw [← Bool.not_eq_true]
    intro m
    have m := may_iff.1 m
    have := m.x1; have := m.x2; have := m.y1; have := m.y2; have := m.v1; have := m.v2; have := m.w1; have := m.w2; have := m.h1; have := m.h2; have := m.t1; have := m.t2
    omega
  rw [m]
theorem km11_leaf (x v y w h t : Int)  (q0 : (decide (x ≥ -2097152)) = true) (q1 : (decide (x ≤ 2097152)) = true) (q2 : (decide (y ≥ -2097152)) = true) (q3 : (decide (y ≤ 2097152)) = true) (q4 : (decide (v ≥ -131072)) = true) (q5 : (decide (v ≤ 131072)) = true) (q6 : (decide (w ≥ -131072)) = true) (q7 : (decide (w ≤ 131072)) = true) (q8 : (decide (h ≥ 1)) = true) (q9 : (decide (h ≤ 4096)) = true) (q10 : (decide (t ≥ 0)) = false) : Gives P 18 #[.int .i64 x, .int .i64 v, .int .i64 y, .int .i64 w, .int .i64 h, .int .i64 t] (.bool (mayB x v y w h t)) := by
  refine gives_of_run (E := G0) (lv := 2) (ds := (.b true :: (.b true :: (.b true :: (.b true :: (.b true :: (.b true :: (.b true :: (.b true :: (.b true :: (.b true :: (.b false :: [])))))))))))) (v := .bool false) (ps := [(decide (x ≥ -2097152)) = true, (decide (x ≤ 2097152)) = true, (decide (y ≥ -2097152)) = true, (decide (y ≤ 2097152)) = true, (decide (v ≥ -131072)) = true, (decide (v ≤ 131072)) = true, (decide (w ≥ -131072)) = true, (decide (w ≤ 131072)) = true, (decide (h ≥ 1)) = true, (decide (h ≤ 4096)) = true, (decide (t ≥ 0)) = false]) mo (by kernel_rfl) (ps_cons q0 (ps_cons q1 (ps_cons q2 (ps_cons q3 (ps_cons q4 (ps_cons q5 (ps_cons q6 (ps_cons q7 (ps_cons q8 (ps_cons q9 (ps_cons q10 ps_nil))))))))))) ?_
  have z0 := of_decide_eq_true q0
  have z1 := of_decide_eq_true q1
  have z2 := of_decide_eq_true q2
  have z3 := of_decide_eq_true q3
  have z4 := of_decide_eq_true q4
  have z5 := of_decide_eq_true q5
  have z6 := of_decide_eq_true q6
  have z7 := of_decide_eq_true q7
  have z8 := of_decide_eq_true q8
  have z9 := of_decide_eq_true q9
  have z10 := of_decide_eq_false q10
  have m : mayB x v y w h t = false := by
    rw [← Bool.not_eq_true]
    intro m
    have m := may_iff.1 m
    have := m.x1; have := m.x2; have := m.y1; have := m.y2; have := m.v1; have := m.v2; have := m.w1; have := m.w2; have := m.h1; have := m.h2; have := m.t1; have := m.t2
    omega
  rw [m]
def kmP : List Value → Prop
  | [.int .i64 _, .int .i64 _, .int .i64 _, .int .i64 _, .int .i64 _, .int .i64 _] => True
  | _ => False
def kmV : List Value → Value
  | [.int _ x, .int _ v, .int _ y, .int _ w, .int _ h, .int _ t] => .bool (mayB x v y w h t)
  | _ => undef
theorem km_gives (args : List Value) (hp : kmP args) : Gives P 18 args.toArray (kmV args) := by
  unfold kmP at hp
  split at hp
  · rename_i x v y w h t
    show Gives P _ #[.int .i64 x, .int .i64 v, .int .i64 y, .int .i64 w, .int .i64 h, .int .i64 t] (.bool (mayB x v y w h t))
    cases q0 : (decide (x ≥ -2097152)) with
    | true =>
      cases q1 : (decide (x ≤ 2097152)) with
      | true =>
        cases q2 : (decide (y ≥ -2097152)) with
        | true =>
          cases q3 : (decide (y ≤ 2097152)) with
          | true =>
            cases q4 : (decide (v ≥ -131072)) with
            | true =>
              cases q5 : (decide (v ≤ 131072)) with
              | true =>
                cases q6 : (decide (w ≥ -131072)) with
                | true =>
                  cases q7 : (decide (w ≤ 131072)) with
                  | true =>
                    cases q8 : (decide (h ≥ 1)) with
                    | true =>
                      cases q9 : (decide (h ≤ 4096)) with
                      | true =>
                        cases q10 : (decide (t ≥ 0)) with
                        | true =>
                          exact km0_leaf x v y w h t  q0 q1 q2 q3 q4 q5 q6 q7 q8 q9 q10
                        | false =>
                          exact km11_leaf x v y w h t  q0 q1 q2 q3 q4 q5 q6 q7 q8 q9 q10
                      | false =>
                        exact km10_leaf x v y w h t  q0 q1 q2 q3 q4 q5 q6 q7 q8 q9
                    | false =>
                      exact km9_leaf x v y w h t  q0 q1 q2 q3 q4 q5 q6 q7 q8
                  | false =>
                    exact km8_leaf x v y w h t  q0 q1 q2 q3 q4 q5 q6 q7
                | false =>
                  exact km7_leaf x v y w h t  q0 q1 q2 q3 q4 q5 q6
              | false =>
                exact km6_leaf x v y w h t  q0 q1 q2 q3 q4 q5
            | false =>
              exact km5_leaf x v y w h t  q0 q1 q2 q3 q4
          | false =>
            exact km4_leaf x v y w h t  q0 q1 q2 q3
        | false =>
          exact km3_leaf x v y w h t  q0 q1 q2
      | false =>
        exact km2_leaf x v y w h t  q0 q1
    | false =>
      exact km1_leaf x v y w h t  q0
  · exact hp.elim
noncomputable def kMay : Ctr P := ⟨18, kmP, kmV, km_gives⟩
noncomputable def G1 : Env P := ⟨⟨Rd.refC ++ [R3.cNear], [Tw.rs_c]⟩, [], 20, []⟩
def nEp (x v y w h t : Int) : RowS := appQ 56 4 (appQ 56 4 (appQ 56 4 (appQ 56 4 ⟨56, 4, 0, fun _ => undef, true⟩ (W (tI (W (pA h t)) * tI (W x)))) (W (tI (W (pB h t)) * tI (W v)))) (W (tI (W (pC h t)) * tI (W y)))) (W (tI (W (pD h t)) * tI (W w)))
theorem kp_run (x v y w h t : Int) : runF P G1 1 19 [.agg #[.int .i64 (pA h t), .int .i64 (pB h t), .int .i64 (pC h t), .int .i64 (pD h t)], .agg #[.int .i64 x, .int .i64 v, .int .i64 y, .int .i64 w], .int .i64 h] [] =
  some (.int .i64 (if i64B (tI (W (qv nq (tI (W (tI (W (tI (W (tI (W (tI (W 0) + tI (W (tI (W (tI (W (pA h t)) * tI (W x))))))) + tI (W (tI (W (tI (W (pB h t)) * tI (W v))))))) + tI (W (tI (W (tI (W (pC h t)) * tI (W y))))))) + tI (W (tI (W (tI (W (pD h t)) * tI (W w)))))))) (tI (W (wH h)))))) then tI (W (qv nq (tI (W (tI (W (tI (W (tI (W (tI (W 0) + tI (W (tI (W (tI (W (pA h t)) * tI (W x))))))) + tI (W (tI (W (tI (W (pB h t)) * tI (W v))))))) + tI (W (tI (W (tI (W (pC h t)) * tI (W y))))))) + tI (W (tI (W (tI (W (pD h t)) * tI (W w)))))))) (tI (W (wH h))))) else 0), [ofP [.int .i64 (pA h t)], ofP [.int .i64 x], P2 [W (pA h t), W x], 0 < 1000000, ofP [.int .i64 (pB h t)], ofP [.int .i64 v], P2 [W (pB h t), W v], 1 < 1000000, ofP [.int .i64 (pC h t)], ofP [.int .i64 y], P2 [W (pC h t), W y], 2 < 1000000, ofP [.int .i64 (pD h t)], ofP [.int .i64 w], P2 [W (pD h t), W w], 3 < 1000000, Tw.sumP [.row { nEp x v y w h t with own := false }], ofP [.int .i64 (wH h)], P2 [W (tI (W (tI (W (tI (W (tI (W 0) + tI (W (tI (W (tI (W (pA h t)) * tI (W x))))))) + tI (W (tI (W (tI (W (pB h t)) * tI (W v))))))) + tI (W (tI (W (tI (W (pC h t)) * tI (W y))))))) + tI (W (tI (W (tI (W (pD h t)) * tI (W w)))))), W (wH h)], P1 [W (qv nq (tI (W (tI (W (tI (W (tI (W (tI (W 0) + tI (W (tI (W (tI (W (pA h t)) * tI (W x))))))) + tI (W (tI (W (tI (W (pB h t)) * tI (W v))))))) + tI (W (tI (W (tI (W (pC h t)) * tI (W y))))))) + tI (W (tI (W (tI (W (pD h t)) * tI (W w)))))))) (tI (W (wH h))))]]) := by kernel_rfl
theorem kp_leaf (x v y w h t : Int) (M : May x v y w h t) : Gives P 19 #[.agg #[.int .i64 (pA h t), .int .i64 (pB h t), .int .i64 (pC h t), .int .i64 (pD h t)], .agg #[.int .i64 x, .int .i64 v, .int .i64 y, .int .i64 w], .int .i64 h] (.int .i64 (place x v y w h t)) := by
  have K := wrs M.h1 M.h2 M.t1 M.t2
  have rx : I64 x := by have := M.x1; have := M.x2; unfold I64; omega
  have rv : I64 v := by have := M.v1; have := M.v2; unfold I64; omega
  have ry : I64 y := by have := M.y1; have := M.y2; unfold I64; omega
  have rw' : I64 w := by have := M.w1; have := M.w2; unfold I64; omega
  have hc := cube M.h1 M.h2
  have rH : I64 (h * h * h) := by unfold I64; omega
  have rH' : I64 (wH h) := by rw [K.H]; exact rH
  have U := su (D := h * h * h) K.rA K.rB K.rC K.rD rx rv ry rw' hc
  have z : 0 + pA h t * x + pB h t * v + pC h t * y + pD h t * w = pS x v y w h t := by unfold pS; omega
  have hi := place_in M
  have tq : tI (W (qv nq (0 + pA h t * x + pB h t * v + pC h t * y + pD h t * w) (h * h * h))) = place x v y w h t := by
    have : qv nq (0 + pA h t * x + pB h t * v + pC h t * y + pD h t * w) (h * h * h) = place x v y w h t := by unfold qv; rw [if_pos U.q, z]; rfl
    rw [this]; exact tI_in (inR64 (by unfold I64; omega))
  have e0 : tI (W 0) = 0 := tI_in inR_0
  have e1 : tI (W (pA h t)) = pA h t := tI_in (inR64 K.rA)
  have e2 : tI (W x) = x := tI_in (inR64 rx)
  have e3 : tI (W ((pA h t) * x)) = (pA h t) * x := tI_in U.p1
  have e4 : tI (W ((pA h t) * x)) = ((pA h t) * x) := tI_in U.p1
  have e5 : tI (W (0 + ((pA h t) * x))) = 0 + ((pA h t) * x) := tI_in U.s1
  have e6 : tI (W (pB h t)) = pB h t := tI_in (inR64 K.rB)
  have e7 : tI (W v) = v := tI_in (inR64 rv)
  have e8 : tI (W ((pB h t) * v)) = (pB h t) * v := tI_in U.p2
  have e9 : tI (W ((pB h t) * v)) = ((pB h t) * v) := tI_in U.p2
  have e10 : tI (W ((0 + ((pA h t) * x)) + ((pB h t) * v))) = (0 + ((pA h t) * x)) + ((pB h t) * v) := tI_in U.s2
  have e11 : tI (W (pC h t)) = pC h t := tI_in (inR64 K.rC)
  have e12 : tI (W y) = y := tI_in (inR64 ry)
  have e13 : tI (W ((pC h t) * y)) = (pC h t) * y := tI_in U.p3
  have e14 : tI (W ((pC h t) * y)) = ((pC h t) * y) := tI_in U.p3
  have e15 : tI (W (((0 + ((pA h t) * x)) + ((pB h t) * v)) + ((pC h t) * y))) = ((0 + ((pA h t) * x)) + ((pB h t) * v)) + ((pC h t) * y) := tI_in U.s3
  have e16 : tI (W (pD h t)) = pD h t := tI_in (inR64 K.rD)
  have e17 : tI (W w) = w := tI_in (inR64 rw')
  have e18 : tI (W ((pD h t) * w)) = (pD h t) * w := tI_in U.p4
  have e19 : tI (W ((pD h t) * w)) = ((pD h t) * w) := tI_in U.p4
  have e20 : tI (W ((((0 + ((pA h t) * x)) + ((pB h t) * v)) + ((pC h t) * y)) + ((pD h t) * w))) = (((0 + ((pA h t) * x)) + ((pB h t) * v)) + ((pC h t) * y)) + ((pD h t) * w) := tI_in U.s4
  have e21 : tI (W (wH h)) = h * h * h := (tI_of K.H (inR64 rH))
  have e22 : tI (W (qv nq (((((0 + ((pA h t) * x)) + ((pB h t) * v)) + ((pC h t) * y)) + ((pD h t) * w))) ((h * h * h)))) = place x v y w h t := tq
  have R := kp_run x v y w h t
  rw [e0, e1, e2, e3, e4, e5, e6, e7, e8, e9, e10, e11, e12, e13, e14, e15, e16, e17, e18, e19, e20, e21, e22] at R
  refine gives_of_run mo R (ps_cons K.rA (ps_cons rx (ps_cons (P2_W _ _) (ps_cons (by decide) (ps_cons K.rB (ps_cons rv (ps_cons (P2_W _ _) (ps_cons (by decide) (ps_cons K.rC (ps_cons ry (ps_cons (P2_W _ _) (ps_cons (by decide) (ps_cons K.rD (ps_cons rw' (ps_cons (P2_W _ _) (ps_cons (by decide) (ps_cons ⟨rfl, (show 4 ≤ 1000000 by decide), fun j hj => by match j, hj with
    | 0, _ => exact ⟨_, rfl⟩
    | 1, _ => exact ⟨_, rfl⟩
    | 2, _ => exact ⟨_, rfl⟩
    | 3, _ => exact ⟨_, rfl⟩⟩ (ps_cons rH' (ps_cons (P2_W _ _) (ps_cons (P1_W _) ps_nil)))))))))))))))))))) ?_
  have e : i64B (place x v y w h t) = true := by unfold i64B; rw [decide_eq_true (by omega), decide_eq_true (by omega)]; rfl
  rw [if_pos e]
def nEq (x v y w h t : Int) : RowS := appQ 56 4 (appQ 56 4 (appQ 56 4 (appQ 56 4 ⟨56, 4, 0, fun _ => undef, true⟩ (W (tI (W (qA h t)) * tI (W x)))) (W (tI (W (qB h t)) * tI (W v)))) (W (tI (W (qC h t)) * tI (W y)))) (W (tI (W (qD h t)) * tI (W w)))
theorem kq_run (x v y w h t : Int) : runF P G1 1 19 [.agg #[.int .i64 (qA h t), .int .i64 (qB h t), .int .i64 (qC h t), .int .i64 (qD h t)], .agg #[.int .i64 x, .int .i64 v, .int .i64 y, .int .i64 w], .int .i64 h] [] =
  some (.int .i64 (if i64B (tI (W (qv nq (tI (W (tI (W (tI (W (tI (W (tI (W 0) + tI (W (tI (W (tI (W (qA h t)) * tI (W x))))))) + tI (W (tI (W (tI (W (qB h t)) * tI (W v))))))) + tI (W (tI (W (tI (W (qC h t)) * tI (W y))))))) + tI (W (tI (W (tI (W (qD h t)) * tI (W w)))))))) (tI (W (wH h)))))) then tI (W (qv nq (tI (W (tI (W (tI (W (tI (W (tI (W 0) + tI (W (tI (W (tI (W (qA h t)) * tI (W x))))))) + tI (W (tI (W (tI (W (qB h t)) * tI (W v))))))) + tI (W (tI (W (tI (W (qC h t)) * tI (W y))))))) + tI (W (tI (W (tI (W (qD h t)) * tI (W w)))))))) (tI (W (wH h))))) else 0), [ofP [.int .i64 (qA h t)], ofP [.int .i64 x], P2 [W (qA h t), W x], 0 < 1000000, ofP [.int .i64 (qB h t)], ofP [.int .i64 v], P2 [W (qB h t), W v], 1 < 1000000, ofP [.int .i64 (qC h t)], ofP [.int .i64 y], P2 [W (qC h t), W y], 2 < 1000000, ofP [.int .i64 (qD h t)], ofP [.int .i64 w], P2 [W (qD h t), W w], 3 < 1000000, Tw.sumP [.row { nEq x v y w h t with own := false }], ofP [.int .i64 (wH h)], P2 [W (tI (W (tI (W (tI (W (tI (W 0) + tI (W (tI (W (tI (W (qA h t)) * tI (W x))))))) + tI (W (tI (W (tI (W (qB h t)) * tI (W v))))))) + tI (W (tI (W (tI (W (qC h t)) * tI (W y))))))) + tI (W (tI (W (tI (W (qD h t)) * tI (W w)))))), W (wH h)], P1 [W (qv nq (tI (W (tI (W (tI (W (tI (W (tI (W 0) + tI (W (tI (W (tI (W (qA h t)) * tI (W x))))))) + tI (W (tI (W (tI (W (qB h t)) * tI (W v))))))) + tI (W (tI (W (tI (W (qC h t)) * tI (W y))))))) + tI (W (tI (W (tI (W (qD h t)) * tI (W w)))))))) (tI (W (wH h))))]]) := by kernel_rfl
theorem kq_leaf (x v y w h t : Int) (M : May x v y w h t) : Gives P 19 #[.agg #[.int .i64 (qA h t), .int .i64 (qB h t), .int .i64 (qC h t), .int .i64 (qD h t)], .agg #[.int .i64 x, .int .i64 v, .int .i64 y, .int .i64 w], .int .i64 h] (.int .i64 (speed x v y w h t)) := by
  have K := wrs M.h1 M.h2 M.t1 M.t2
  have rx : I64 x := by have := M.x1; have := M.x2; unfold I64; omega
  have rv : I64 v := by have := M.v1; have := M.v2; unfold I64; omega
  have ry : I64 y := by have := M.y1; have := M.y2; unfold I64; omega
  have rw' : I64 w := by have := M.w1; have := M.w2; unfold I64; omega
  have hc := cube M.h1 M.h2
  have rH : I64 (h * h * h) := by unfold I64; omega
  have rH' : I64 (wH h) := by rw [K.H]; exact rH
  have U := su (D := h * h * h) K.ra K.rb K.rc K.rd rx rv ry rw' hc
  have z : 0 + qA h t * x + qB h t * v + qC h t * y + qD h t * w = qS x v y w h t := by unfold qS; omega
  have hi := speed_in M
  have tq : tI (W (qv nq (0 + qA h t * x + qB h t * v + qC h t * y + qD h t * w) (h * h * h))) = speed x v y w h t := by
    have : qv nq (0 + qA h t * x + qB h t * v + qC h t * y + qD h t * w) (h * h * h) = speed x v y w h t := by unfold qv; rw [if_pos U.q, z]; rfl
    rw [this]; exact tI_in (inR64 (by unfold I64; omega))
  have e0 : tI (W 0) = 0 := tI_in inR_0
  have e1 : tI (W (qA h t)) = qA h t := tI_in (inR64 K.ra)
  have e2 : tI (W x) = x := tI_in (inR64 rx)
  have e3 : tI (W ((qA h t) * x)) = (qA h t) * x := tI_in U.p1
  have e4 : tI (W ((qA h t) * x)) = ((qA h t) * x) := tI_in U.p1
  have e5 : tI (W (0 + ((qA h t) * x))) = 0 + ((qA h t) * x) := tI_in U.s1
  have e6 : tI (W (qB h t)) = qB h t := tI_in (inR64 K.rb)
  have e7 : tI (W v) = v := tI_in (inR64 rv)
  have e8 : tI (W ((qB h t) * v)) = (qB h t) * v := tI_in U.p2
  have e9 : tI (W ((qB h t) * v)) = ((qB h t) * v) := tI_in U.p2
  have e10 : tI (W ((0 + ((qA h t) * x)) + ((qB h t) * v))) = (0 + ((qA h t) * x)) + ((qB h t) * v) := tI_in U.s2
  have e11 : tI (W (qC h t)) = qC h t := tI_in (inR64 K.rc)
  have e12 : tI (W y) = y := tI_in (inR64 ry)
  have e13 : tI (W ((qC h t) * y)) = (qC h t) * y := tI_in U.p3
  have e14 : tI (W ((qC h t) * y)) = ((qC h t) * y) := tI_in U.p3
  have e15 : tI (W (((0 + ((qA h t) * x)) + ((qB h t) * v)) + ((qC h t) * y))) = ((0 + ((qA h t) * x)) + ((qB h t) * v)) + ((qC h t) * y) := tI_in U.s3
  have e16 : tI (W (qD h t)) = qD h t := tI_in (inR64 K.rd)
  have e17 : tI (W w) = w := tI_in (inR64 rw')
  have e18 : tI (W ((qD h t) * w)) = (qD h t) * w := tI_in U.p4
  have e19 : tI (W ((qD h t) * w)) = ((qD h t) * w) := tI_in U.p4
  have e20 : tI (W ((((0 + ((qA h t) * x)) + ((qB h t) * v)) + ((qC h t) * y)) + ((qD h t) * w))) = (((0 + ((qA h t) * x)) + ((qB h t) * v)) + ((qC h t) * y)) + ((qD h t) * w) := tI_in U.s4
  have e21 : tI (W (wH h)) = h * h * h := (tI_of K.H (inR64 rH))
  have e22 : tI (W (qv nq (((((0 + ((qA h t) * x)) + ((qB h t) * v)) + ((qC h t) * y)) + ((qD h t) * w))) ((h * h * h)))) = speed x v y w h t := tq
  have R := kq_run x v y w h t
  rw [e0, e1, e2, e3, e4, e5, e6, e7, e8, e9, e10, e11, e12, e13, e14, e15, e16, e17, e18, e19, e20, e21, e22] at R
  refine gives_of_run mo R (ps_cons K.ra (ps_cons rx (ps_cons (P2_W _ _) (ps_cons (by decide) (ps_cons K.rb (ps_cons rv (ps_cons (P2_W _ _) (ps_cons (by decide) (ps_cons K.rc (ps_cons ry (ps_cons (P2_W _ _) (ps_cons (by decide) (ps_cons K.rd (ps_cons rw' (ps_cons (P2_W _ _) (ps_cons (by decide) (ps_cons ⟨rfl, (show 4 ≤ 1000000 by decide), fun j hj => by match j, hj with
    | 0, _ => exact ⟨_, rfl⟩
    | 1, _ => exact ⟨_, rfl⟩
    | 2, _ => exact ⟨_, rfl⟩
    | 3, _ => exact ⟨_, rfl⟩⟩ (ps_cons rH' (ps_cons (P2_W _ _) (ps_cons (P1_W _) ps_nil)))))))))))))))))))) ?_
  have e : i64B (speed x v y w h t) = true := by unfold i64B; rw [decide_eq_true (by omega), decide_eq_true (by omega)]; rfl
  rw [if_pos e]
def nrP : List Value → Prop
  | [a, b, c] => ∃ x v y w h t, May x v y w h t ∧ b = .agg #[.int .i64 x, .int .i64 v, .int .i64 y, .int .i64 w] ∧ c = .int .i64 h ∧ (a = .agg #[.int .i64 (pA h t), .int .i64 (pB h t), .int .i64 (pC h t), .int .i64 (pD h t)] ∨ a = .agg #[.int .i64 (qA h t), .int .i64 (qB h t), .int .i64 (qC h t), .int .i64 (qD h t)])
  | _ => False
def nrV : List Value → Value
  | [.agg a, .agg b, .int _ h] => match a.toList, b.toList with
    | [.int _ p, .int _ q, .int _ r, .int _ s], [.int _ x, .int _ v, .int _ y, .int _ w] => .int .i64 (nq (p * x + q * v + r * y + s * w) (h * h * h))
    | _, _ => undef
  | _ => undef
theorem nr_gives (args : List Value) (hp : nrP args) : Gives P 19 args.toArray (nrV args) := by
  unfold nrP at hp
  split at hp
  · obtain ⟨x, v, y, w, h, t, M, rfl, rfl, rfl | rfl⟩ := hp
    · exact kp_leaf x v y w h t M
    · exact kq_leaf x v y w h t M
  · exact hp.elim
noncomputable def kNear : Ctr P := ⟨19, nrP, nrV, nr_gives⟩
noncomputable def G2 : Env P := ⟨⟨[kMay, kWeights, kNear], []⟩, [], 20, []⟩
theorem xp_no (x v y w h t : Int) (b : (mayB x v y w h t) = false) : Gives P 7 #[.int .i64 x, .int .i64 v, .int .i64 y, .int .i64 w, .int .i64 h, .int .i64 t] (.tuple #[.int .i64 0, .int .i64 2]) :=
  gives_of_run (E := G2) (lv := 1) (ds := (.b true :: [])) (v := .tuple #[.int .i64 0, .int .i64 2]) (ps := [kmP [.int .i64 x, .int .i64 v, .int .i64 y, .int .i64 w, .int .i64 h, .int .i64 t], (!(mayB x v y w h t)) = true]) mo (by kernel_rfl) (ps_cons trivial (ps_cons (neg_t b) ps_nil)) rfl
theorem xp_run (x v y w h t : Int) : runF P G2 1 7 [.int .i64 x, .int .i64 v, .int .i64 y, .int .i64 w, .int .i64 h, .int .i64 t] (.b false :: []) = some (.tuple #[.int .i64 (nq ((weI pA h t) * x + (weI pB h t) * v + (weI pC h t) * y + (weI pD h t) * w) (h * h * h)), .int .i64 0], [kmP [.int .i64 x, .int .i64 v, .int .i64 y, .int .i64 w, .int .i64 h, .int .i64 t], (!(mayB x v y w h t)) = false, weP [.int .i64 h, .int .i64 t], nrP [.agg #[.int .i64 (weI pA h t), .int .i64 (weI pB h t), .int .i64 (weI pC h t), .int .i64 (weI pD h t)], .agg #[.int .i64 x, .int .i64 v, .int .i64 y, .int .i64 w], .int .i64 h]]) := by kernel_rfl
theorem xp_yes (x v y w h t : Int) (b : (mayB x v y w h t) = true) : Gives P 7 #[.int .i64 x, .int .i64 v, .int .i64 y, .int .i64 w, .int .i64 h, .int .i64 t] (.tuple #[.int .i64 (place x v y w h t), .int .i64 0]) := by
  have M := may_iff.1 b
  have m0 : mayB 0 0 0 0 h t = true := may_zero.2 ⟨M.h1, M.h2, M.t1, M.t2⟩
  have K := wrs M.h1 M.h2 M.t1 M.t2
  have R := xp_run x v y w h t
  have e : ∀ f : Int → Int → Int, weI f h t = f h t := fun f => by unfold weI; rw [m0]; rfl
  rw [e, e, e, e] at R
  exact gives_of_run mo R (ps_cons trivial (ps_cons (neg_f b) (ps_cons trivial (ps_cons ⟨x, v, y, w, h, t, M, rfl, rfl, .inl rfl⟩ ps_nil)))) rfl
theorem xp_gives (args : List Value) (hp : plP args) : Gives P 7 args.toArray (plV args) := by
  unfold plP at hp
  split at hp
  · rename_i x v y w h t
    show Gives P _ #[.int .i64 x, .int .i64 v, .int .i64 y, .int .i64 w, .int .i64 h, .int .i64 t] (.tuple #[.int .i64 (placeI x v y w h t), .int .i64 (bif mayB x v y w h t then 0 else 2)])
    unfold placeI
    cases b : mayB x v y w h t with
    | true => exact xp_yes x v y w h t b
    | false => exact xp_no x v y w h t b
  · exact hp.elim
noncomputable def kPlace : Ctr P := ⟨7, plP, plV, xp_gives⟩
theorem xs_no (x v y w h t : Int) (b : (mayB x v y w h t) = false) : Gives P 9 #[.int .i64 x, .int .i64 v, .int .i64 y, .int .i64 w, .int .i64 h, .int .i64 t] (.tuple #[.int .i64 0, .int .i64 2]) :=
  gives_of_run (E := G2) (lv := 1) (ds := (.b true :: [])) (v := .tuple #[.int .i64 0, .int .i64 2]) (ps := [kmP [.int .i64 x, .int .i64 v, .int .i64 y, .int .i64 w, .int .i64 h, .int .i64 t], (!(mayB x v y w h t)) = true]) mo (by kernel_rfl) (ps_cons trivial (ps_cons (neg_t b) ps_nil)) rfl
theorem xs_run (x v y w h t : Int) : runF P G2 2 9 [.int .i64 x, .int .i64 v, .int .i64 y, .int .i64 w, .int .i64 h, .int .i64 t] (.b false :: []) = some (.tuple #[.int .i64 (nq ((rjA h t) * x + (rjB h t) * v + (rjC h t) * y + (rjD h t) * w) (h * h * h)), .int .i64 0], [kmP [.int .i64 x, .int .i64 v, .int .i64 y, .int .i64 w, .int .i64 h, .int .i64 t], (!(mayB x v y w h t)) = false, nrP [.agg #[.int .i64 (rjA h t), .int .i64 (rjB h t), .int .i64 (rjC h t), .int .i64 (rjD h t)], .agg #[.int .i64 x, .int .i64 v, .int .i64 y, .int .i64 w], .int .i64 h]]) := by kernel_rfl
theorem xs_yes (x v y w h t : Int) (b : (mayB x v y w h t) = true) : Gives P 9 #[.int .i64 x, .int .i64 v, .int .i64 y, .int .i64 w, .int .i64 h, .int .i64 t] (.tuple #[.int .i64 (speed x v y w h t), .int .i64 0]) := by
  have M := may_iff.1 b
  have m0 : mayB 0 0 0 0 h t = true := may_zero.2 ⟨M.h1, M.h2, M.t1, M.t2⟩
  have K := wrs M.h1 M.h2 M.t1 M.t2
  have R := xs_run x v y w h t
  rw [rjA_eq K.ra, rjB_eq K.rb, rjC_eq K.rc, rjD_eq K.rd] at R
  exact gives_of_run mo R (ps_cons trivial (ps_cons (neg_f b) (ps_cons ⟨x, v, y, w, h, t, M, rfl, rfl, .inr rfl⟩ ps_nil))) rfl
theorem xs_gives (args : List Value) (hp : spP args) : Gives P 9 args.toArray (spV args) := by
  unfold spP at hp
  split at hp
  · rename_i x v y w h t
    show Gives P _ #[.int .i64 x, .int .i64 v, .int .i64 y, .int .i64 w, .int .i64 h, .int .i64 t] (.tuple #[.int .i64 (speedI x v y w h t), .int .i64 (bif mayB x v y w h t then 0 else 2)])
    unfold speedI
    cases b : mayB x v y w h t with
    | true => exact xs_yes x v y w h t b
    | false => exact xs_no x v y w h t b
  · exact hp.elim
noncomputable def kSpeed : Ctr P := ⟨9, spP, spV, xs_gives⟩
noncomputable def ref28C : List (Ctr P) := [kPlace, kSpeed, kWeights]
end Go.He
