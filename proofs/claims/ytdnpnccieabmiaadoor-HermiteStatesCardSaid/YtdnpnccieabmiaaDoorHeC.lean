/-
  Contracts of package hermite: places, speeds, factors. Printed by heC.py.
-/
import Derived.Test.YtdnpnccieabmiaaDoorHeA
set_option maxRecDepth 100000
namespace Go.He
open Go Go.RowKit Go.Sx Go.Nm Go.Wd Go.Qt Go.Proofs
def wA (h t : Int) : Int := IntKind.i64.wrap (IntKind.i64.wrap ((IntKind.i64.wrap (h * h)) * h) - (IntKind.i64.wrap ((IntKind.i64.wrap (t * t)) * (IntKind.i64.wrap (IntKind.i64.wrap (3 * h) - (IntKind.i64.wrap (2 * t)))))))
def wB (h t : Int) : Int := IntKind.i64.wrap ((IntKind.i64.wrap ((IntKind.i64.wrap (t * (IntKind.i64.wrap (h - t)))) * (IntKind.i64.wrap (h - t)))) * h)
def wC (h t : Int) : Int := IntKind.i64.wrap ((IntKind.i64.wrap (t * t)) * (IntKind.i64.wrap (IntKind.i64.wrap (3 * h) - (IntKind.i64.wrap (2 * t)))))
def wD (h t : Int) : Int := IntKind.i64.wrap ((IntKind.i64.wrap ((IntKind.i64.wrap ((IntKind.i64.wrap (0 - t)) * t)) * (IntKind.i64.wrap (h - t)))) * h)
def uA (h t : Int) : Int := IntKind.i64.wrap (0 - (IntKind.i64.wrap ((IntKind.i64.wrap (6 * t)) * (IntKind.i64.wrap (h - t)))))
def uB (h t : Int) : Int := IntKind.i64.wrap ((IntKind.i64.wrap ((IntKind.i64.wrap (h - t)) * (IntKind.i64.wrap (h - (IntKind.i64.wrap (3 * t)))))) * h)
def uC (h t : Int) : Int := IntKind.i64.wrap ((IntKind.i64.wrap (6 * t)) * (IntKind.i64.wrap (h - t)))
def uD (h t : Int) : Int := IntKind.i64.wrap ((IntKind.i64.wrap (t * (IntKind.i64.wrap (IntKind.i64.wrap (3 * t) - (IntKind.i64.wrap (2 * h)))))) * h)
def wH (h : Int) : Int := IntKind.i64.wrap ((IntKind.i64.wrap (h * h)) * h)
theorem wr {n : Int} (h1 : -9223372036854775808 ≤ n) (h2 : n < 9223372036854775808) : IntKind.i64.wrap n = n := wrap_i64_in h1 h2
def mayB (x v y w h t : Int) : Bool := !decide (x > 2097152) && (!decide (x < -2097152) && (!decide (v > 131072) && (!decide (v < -131072) && (!decide (y > 2097152) && (!decide (y < -2097152) && (!decide (w > 131072) && (!decide (w < -131072) && (decide (h ≥ 1) && (decide (h ≤ 4096) && (decide (t ≥ 0) && decide (t ≤ h)))))))))))
theorem may_iff {x v y w h t : Int} : mayB x v y w h t = true ↔ May x v y w h t := by
  unfold mayB
  simp only [Bool.and_eq_true, Bool.not_eq_true', decide_eq_true_eq, decide_eq_false_iff_not]
  constructor
  · rintro ⟨a, b, c, d, e, f, g, i, j, k, l, m⟩
    exact ⟨by omega, by omega, by omega, by omega, by omega, by omega, by omega, by omega, j, k, l, m⟩
  · intro q
    have a1 := q.x1
    have a2 := q.x2
    have a3 := q.y1
    have a4 := q.y2
    have a5 := q.v1
    have a6 := q.v2
    have a7 := q.w1
    have a8 := q.w2
    exact ⟨by omega, by omega, by omega, by omega, by omega, by omega, by omega, by omega, q.h1, q.h2, q.t1, q.t2⟩
theorem may_zero {h t : Int} : mayB 0 0 0 0 h t = true ↔ 1 ≤ h ∧ h ≤ 4096 ∧ 0 ≤ t ∧ t ≤ h := by
  rw [may_iff]
  exact ⟨fun q => ⟨q.h1, q.h2, q.t1, q.t2⟩, fun ⟨a, b, c, d⟩ => ⟨by decide, by decide, by decide, by decide, by decide, by decide, by decide, by decide, a, b, c, d⟩⟩
theorem neg_t {b : Bool} (h : b = false) : (!b) = true := by rw [h]; rfl
theorem neg_f {b : Bool} (h : b = true) : (!b) = false := by rw [h]; rfl
theorem tI_of {x n : Int} (h : x = n) (r : InR n) : tI (W x) = n := by rw [h]; exact tI_in r
structure Wr (h t : Int) : Prop where
  H : wH h = h * h * h
  A : wA h t = pA h t
  B : wB h t = pB h t
  C : wC h t = pC h t
  D : wD h t = pD h t
  a : uA h t = qA h t
  b : uB h t = qB h t
  c : uC h t = qC h t
  d : uD h t = qD h t
  rA : I64 (pA h t)
  rB : I64 (pB h t)
  rC : I64 (pC h t)
  rD : I64 (pD h t)
  ra : I64 (qA h t)
  rb : I64 (qB h t)
  rc : I64 (qC h t)
  rd : I64 (qD h t)
theorem wrs {h t : Int} (h1 : 1 ≤ h) (h2 : h ≤ 4096) (t1 : 0 ≤ t) (t2 : t ≤ h) : Wr h t := by
  have hc := cube h1 h2
  have f := fac h1 h2 t1 t2
  have g := fas h1 t1 t2
  have hh : 0 ≤ h * h ∧ h * h ≤ 16777216 := ⟨Int.mul_nonneg (by omega) (by omega), Int.mul_le_mul (a := h) (b := h) (c := 4096) (d := 4096) h2 h2 (by omega) (by decide)⟩
  have tt : 0 ≤ t * t ∧ t * t ≤ 16777216 := ⟨Int.mul_nonneg t1 t1, Int.mul_le_mul (a := t) (b := t) (c := 4096) (d := 4096) (by omega) (by omega) t1 (by decide)⟩
  have tl := mulb (a := t) (b := h - t) (A := 4096) (B := 4096) (by omega) (by omega) (by omega) (by omega)
  have tll := mulb (a := t * (h - t)) (b := h - t) (A := 16777216) (B := 4096) (by omega) (by omega) (by omega) (by omega)
  have ttl := mulb (a := t * t) (b := h - t) (A := 16777216) (B := 4096) (by omega) (by omega) (by omega) (by omega)
  have ntt := mulb (a := -t) (b := t) (A := 4096) (B := 4096) (by omega) (by omega) (by omega) (by omega)
  have nttl := mulb (a := -t * t) (b := h - t) (A := 16777216) (B := 4096) (by omega) (by omega) (by omega) (by omega)
  have l3 := mulb (a := h - t) (b := h - 3 * t) (A := 4096) (B := 8192) (by omega) (by omega) (by omega) (by omega)
  have t3 := mulb (a := t) (b := 3 * t - 2 * h) (A := 4096) (B := 8192) (by omega) (by omega) (by omega) (by omega)
  have l6 := mulb (a := 6 * t) (b := h - t) (A := 24576) (B := 4096) (by omega) (by omega) (by omega) (by omega)
  have a0 := f.a0
  have a1 := f.a1
  have b0 := f.b0
  have b1 := f.b1
  have c0 := f.c0
  have c1 := f.c1
  have d0 := f.d0
  have d1 := f.d1
  have ga := g.a
  have gb := g.b
  have gc := g.c
  have gd := g.d
  have eH : wH h = h * h * h := by unfold wH; rw [wr (n := h * h) (by omega) (by omega), wr (by omega) (by omega)]
  have eC : wC h t = pC h t := by
    unfold wC pC at *
    rw [wr (n := t * t) (by omega) (by omega), wr (n := 3 * h) (by omega) (by omega), wr (n := 2 * t) (by omega) (by omega), wr (n := 3 * h - 2 * t) (by omega) (by omega), wr (by omega) (by omega)]
  have eA : wA h t = pA h t := by
    have e : wA h t = IntKind.i64.wrap (wH h - wC h t) := rfl
    rw [e, eH, eC]
    unfold pA at *
    unfold pC at *
    exact wr (by omega) (by omega)
  have eB : wB h t = pB h t := by
    unfold wB pB at *
    rw [wr (n := h - t) (by omega) (by omega), wr (n := t * (h - t)) (by omega) (by omega), wr (n := t * (h - t) * (h - t)) (by omega) (by omega), wr (by omega) (by omega)]
  have eD : wD h t = pD h t := by
    have e : pD h t = -t * t * (h - t) * h := by unfold pD; grind
    rw [e] at d0 d1 ⊢
    unfold wD
    rw [wr (n := h - t) (by omega) (by omega), wr (n := 0 - t) (by omega) (by omega), show 0 - t = -t by omega, wr (n := -t * t) (by omega) (by omega), wr (n := -t * t * (h - t)) (by omega) (by omega), wr (by omega) (by omega)]
  have ec : uC h t = qC h t := by
    unfold uC qC at *
    rw [wr (n := h - t) (by omega) (by omega), wr (n := 6 * t) (by omega) (by omega), wr (by omega) (by omega)]
  have ea : uA h t = qA h t := by
    have e : uA h t = IntKind.i64.wrap (0 - uC h t) := rfl
    rw [e, ec]
    unfold qA qC at *
    rw [wr (by omega) (by omega)]; omega
  have eb : uB h t = qB h t := by
    unfold uB qB at *
    rw [wr (n := h - t) (by omega) (by omega), wr (n := 3 * t) (by omega) (by omega), wr (n := h - 3 * t) (by omega) (by omega), wr (n := (h - t) * (h - 3 * t)) (by omega) (by omega), wr (by omega) (by omega)]
  have ed : uD h t = qD h t := by
    unfold uD qD at *
    rw [wr (n := 3 * t) (by omega) (by omega), wr (n := 2 * h) (by omega) (by omega), wr (n := 3 * t - 2 * h) (by omega) (by omega), wr (n := t * (3 * t - 2 * h)) (by omega) (by omega), wr (by omega) (by omega)]
  exact ⟨eH, eA, eB, eC, eD, ea, eb, ec, ed, by unfold I64; omega, by unfold I64; omega, by unfold I64; omega, by unfold I64; omega, by unfold I64; omega, by unfold I64; omega, by unfold I64; omega, by unfold I64; omega⟩
structure Su (a b c d x v y w D : Int) : Prop where
  p1 : InR (a * x)
  p2 : InR (b * v)
  p3 : InR (c * y)
  p4 : InR (d * w)
  s1 : InR (0 + a * x)
  s2 : InR (0 + a * x + b * v)
  s3 : InR (0 + a * x + b * v + c * y)
  s4 : InR (0 + a * x + b * v + c * y + d * w)
  q : qe (0 + a * x + b * v + c * y + d * w) D = 0
theorem su {a b c d x v y w D : Int} (ha : I64 a) (hb : I64 b) (hc : I64 c) (hd : I64 d) (hx : I64 x) (hv : I64 v) (hy : I64 y) (hw : I64 w) (hD : 1 ≤ D ∧ D ≤ 68719476736) : Su a b c d x v y w D := by
  have m : ∀ {a b : Int}, I64 a → I64 b → -85070591730234615865843651857942052864 ≤ a * b ∧ a * b ≤ 85070591730234615865843651857942052864 := fun {a b} h k => by
    unfold I64 at h k
    exact mulb (A := 9223372036854775808) (B := 9223372036854775808) (by omega) (by omega) (by omega) (by omega)
  have m1 := m ha hx
  have m2 := m hb hv
  have m3 := m hc hy
  have m4 := m hd hw
  have e : qe (0 + a * x + b * v + c * y + d * w) D = 0 := by unfold qe; simp only [HH]; rw [if_neg (by omega), if_neg (by omega)]
  refine ⟨?_, ?_, ?_, ?_, ?_, ?_, ?_, ?_, e⟩
  all_goals unfold InR; simp only [HH]; omega
def Cu (x v y w h t : Int) : Value := .agg #[.int .i64 x, .int .i64 v, .int .i64 y, .int .i64 w, .int .i64 h, .int .i64 t]
def fiP : List Value → Prop
  | [a] => ∃ x v y w h t, a = Cu x v y w h t
  | _ => False
def fiV : List Value → Value
  | [.agg cs] => match cs.toList with
    | [.int _ x, .int _ v, .int _ y, .int _ w, .int _ h, .int _ t] => .bool (mayB x v y w h t)
    | _ => undef
  | _ => undef
noncomputable def HF : Env P := ⟨⟨[], []⟩, [], 20, []⟩
theorem fi0_run (x v y w h t : Int) : runF P HF 1 22 [.agg #[.int .i64 x, .int .i64 v, .int .i64 y, .int .i64 w, .int .i64 h, .int .i64 t]] (.lit :: (.lit :: (.lit :: (.b true :: [])))) =
  some (.bool false, [(decide (x > 2097152)) = true]) := by kernel_rfl
theorem fi0_leaf (x v y w h t : Int)  (q0 : (decide (x > 2097152)) = true) : Gives P 22 #[.agg #[.int .i64 x, .int .i64 v, .int .i64 y, .int .i64 w, .int .i64 h, .int .i64 t]] (.bool (mayB x v y w h t)) := by
  have R := fi0_run x v y w h t
  refine gives_of_run mo R (ps_cons q0 ps_nil) ?_
  unfold mayB
  rw [q0]
  rfl
theorem fi1_run (x v y w h t : Int) : runF P HF 1 22 [.agg #[.int .i64 x, .int .i64 v, .int .i64 y, .int .i64 w, .int .i64 h, .int .i64 t]] (.lit :: (.lit :: (.lit :: (.b false :: (.lit :: (.b true :: [])))))) =
  some (.bool false, [(decide (x > 2097152)) = false, (decide (x < -2097152)) = true]) := by kernel_rfl
theorem fi1_leaf (x v y w h t : Int)  (q0 : (decide (x > 2097152)) = false) (q1 : (decide (x < -2097152)) = true) : Gives P 22 #[.agg #[.int .i64 x, .int .i64 v, .int .i64 y, .int .i64 w, .int .i64 h, .int .i64 t]] (.bool (mayB x v y w h t)) := by
  have R := fi1_run x v y w h t
  refine gives_of_run mo R (ps_cons q0 (ps_cons q1 ps_nil)) ?_
  unfold mayB
  rw [q0, q1]
  rfl
theorem fi2_run (x v y w h t : Int) : runF P HF 1 22 [.agg #[.int .i64 x, .int .i64 v, .int .i64 y, .int .i64 w, .int .i64 h, .int .i64 t]] (.lit :: (.lit :: (.lit :: (.b false :: (.lit :: (.b false :: (.lit :: (.lit :: (.b true :: []))))))))) =
  some (.bool false, [(decide (x > 2097152)) = false, (decide (x < -2097152)) = false, (decide (v > 131072)) = true]) := by kernel_rfl
theorem fi2_leaf (x v y w h t : Int)  (q0 : (decide (x > 2097152)) = false) (q1 : (decide (x < -2097152)) = false) (q2 : (decide (v > 131072)) = true) : Gives P 22 #[.agg #[.int .i64 x, .int .i64 v, .int .i64 y, .int .i64 w, .int .i64 h, .int .i64 t]] (.bool (mayB x v y w h t)) := by
  have R := fi2_run x v y w h t
  refine gives_of_run mo R (ps_cons q0 (ps_cons q1 (ps_cons q2 ps_nil))) ?_
  unfold mayB
  rw [q0, q1, q2]
  rfl
theorem fi3_run (x v y w h t : Int) : runF P HF 1 22 [.agg #[.int .i64 x, .int .i64 v, .int .i64 y, .int .i64 w, .int .i64 h, .int .i64 t]] (.lit :: (.lit :: (.lit :: (.b false :: (.lit :: (.b false :: (.lit :: (.lit :: (.b false :: (.lit :: (.b true :: []))))))))))) =
  some (.bool false, [(decide (x > 2097152)) = false, (decide (x < -2097152)) = false, (decide (v > 131072)) = false, (decide (v < -131072)) = true]) := by kernel_rfl
theorem fi3_leaf (x v y w h t : Int)  (q0 : (decide (x > 2097152)) = false) (q1 : (decide (x < -2097152)) = false) (q2 : (decide (v > 131072)) = false) (q3 : (decide (v < -131072)) = true) : Gives P 22 #[.agg #[.int .i64 x, .int .i64 v, .int .i64 y, .int .i64 w, .int .i64 h, .int .i64 t]] (.bool (mayB x v y w h t)) := by
  have R := fi3_run x v y w h t
  refine gives_of_run mo R (ps_cons q0 (ps_cons q1 (ps_cons q2 (ps_cons q3 ps_nil)))) ?_
  unfold mayB
  rw [q0, q1, q2, q3]
  rfl
theorem fi4_run (x v y w h t : Int) : runF P HF 1 22 [.agg #[.int .i64 x, .int .i64 v, .int .i64 y, .int .i64 w, .int .i64 h, .int .i64 t]] (.lit :: (.lit :: (.lit :: (.b false :: (.lit :: (.b false :: (.lit :: (.lit :: (.b false :: (.lit :: (.b false :: (.lit :: (.lit :: (.b true :: [])))))))))))))) =
  some (.bool false, [(decide (x > 2097152)) = false, (decide (x < -2097152)) = false, (decide (v > 131072)) = false, (decide (v < -131072)) = false, (decide (y > 2097152)) = true]) := by kernel_rfl
theorem fi4_leaf (x v y w h t : Int)  (q0 : (decide (x > 2097152)) = false) (q1 : (decide (x < -2097152)) = false) (q2 : (decide (v > 131072)) = false) (q3 : (decide (v < -131072)) = false) (q4 : (decide (y > 2097152)) = true) : Gives P 22 #[.agg #[.int .i64 x, .int .i64 v, .int .i64 y, .int .i64 w, .int .i64 h, .int .i64 t]] (.bool (mayB x v y w h t)) := by
  have R := fi4_run x v y w h t
  refine gives_of_run mo R (ps_cons q0 (ps_cons q1 (ps_cons q2 (ps_cons q3 (ps_cons q4 ps_nil))))) ?_
  unfold mayB
  rw [q0, q1, q2, q3, q4]
  rfl
theorem fi5_run (x v y w h t : Int) : runF P HF 1 22 [.agg #[.int .i64 x, .int .i64 v, .int .i64 y, .int .i64 w, .int .i64 h, .int .i64 t]] (.lit :: (.lit :: (.lit :: (.b false :: (.lit :: (.b false :: (.lit :: (.lit :: (.b false :: (.lit :: (.b false :: (.lit :: (.lit :: (.b false :: (.lit :: (.b true :: [])))))))))))))))) =
  some (.bool false, [(decide (x > 2097152)) = false, (decide (x < -2097152)) = false, (decide (v > 131072)) = false, (decide (v < -131072)) = false, (decide (y > 2097152)) = false, (decide (y < -2097152)) = true]) := by kernel_rfl
theorem fi5_leaf (x v y w h t : Int)  (q0 : (decide (x > 2097152)) = false) (q1 : (decide (x < -2097152)) = false) (q2 : (decide (v > 131072)) = false) (q3 : (decide (v < -131072)) = false) (q4 : (decide (y > 2097152)) = false) (q5 : (decide (y < -2097152)) = true) : Gives P 22 #[.agg #[.int .i64 x, .int .i64 v, .int .i64 y, .int .i64 w, .int .i64 h, .int .i64 t]] (.bool (mayB x v y w h t)) := by
  have R := fi5_run x v y w h t
  refine gives_of_run mo R (ps_cons q0 (ps_cons q1 (ps_cons q2 (ps_cons q3 (ps_cons q4 (ps_cons q5 ps_nil)))))) ?_
  unfold mayB
  rw [q0, q1, q2, q3, q4, q5]
  rfl
theorem fi6_run (x v y w h t : Int) : runF P HF 1 22 [.agg #[.int .i64 x, .int .i64 v, .int .i64 y, .int .i64 w, .int .i64 h, .int .i64 t]] (.lit :: (.lit :: (.lit :: (.b false :: (.lit :: (.b false :: (.lit :: (.lit :: (.b false :: (.lit :: (.b false :: (.lit :: (.lit :: (.b false :: (.lit :: (.b false :: (.lit :: (.lit :: (.b true :: []))))))))))))))))))) =
  some (.bool false, [(decide (x > 2097152)) = false, (decide (x < -2097152)) = false, (decide (v > 131072)) = false, (decide (v < -131072)) = false, (decide (y > 2097152)) = false, (decide (y < -2097152)) = false, (decide (w > 131072)) = true]) := by kernel_rfl
theorem fi6_leaf (x v y w h t : Int)  (q0 : (decide (x > 2097152)) = false) (q1 : (decide (x < -2097152)) = false) (q2 : (decide (v > 131072)) = false) (q3 : (decide (v < -131072)) = false) (q4 : (decide (y > 2097152)) = false) (q5 : (decide (y < -2097152)) = false) (q6 : (decide (w > 131072)) = true) : Gives P 22 #[.agg #[.int .i64 x, .int .i64 v, .int .i64 y, .int .i64 w, .int .i64 h, .int .i64 t]] (.bool (mayB x v y w h t)) := by
  have R := fi6_run x v y w h t
  refine gives_of_run mo R (ps_cons q0 (ps_cons q1 (ps_cons q2 (ps_cons q3 (ps_cons q4 (ps_cons q5 (ps_cons q6 ps_nil))))))) ?_
  unfold mayB
  rw [q0, q1, q2, q3, q4, q5, q6]
  rfl
theorem fi7_run (x v y w h t : Int) : runF P HF 1 22 [.agg #[.int .i64 x, .int .i64 v, .int .i64 y, .int .i64 w, .int .i64 h, .int .i64 t]] (.lit :: (.lit :: (.lit :: (.b false :: (.lit :: (.b false :: (.lit :: (.lit :: (.b false :: (.lit :: (.b false :: (.lit :: (.lit :: (.b false :: (.lit :: (.b false :: (.lit :: (.lit :: (.b false :: (.lit :: (.b true :: []))))))))))))))))))))) =
  some (.bool false, [(decide (x > 2097152)) = false, (decide (x < -2097152)) = false, (decide (v > 131072)) = false, (decide (v < -131072)) = false, (decide (y > 2097152)) = false, (decide (y < -2097152)) = false, (decide (w > 131072)) = false, (decide (w < -131072)) = true]) := by kernel_rfl
theorem fi7_leaf (x v y w h t : Int)  (q0 : (decide (x > 2097152)) = false) (q1 : (decide (x < -2097152)) = false) (q2 : (decide (v > 131072)) = false) (q3 : (decide (v < -131072)) = false) (q4 : (decide (y > 2097152)) = false) (q5 : (decide (y < -2097152)) = false) (q6 : (decide (w > 131072)) = false) (q7 : (decide (w < -131072)) = true) : Gives P 22 #[.agg #[.int .i64 x, .int .i64 v, .int .i64 y, .int .i64 w, .int .i64 h, .int .i64 t]] (.bool (mayB x v y w h t)) := by
  have R := fi7_run x v y w h t
  refine gives_of_run mo R (ps_cons q0 (ps_cons q1 (ps_cons q2 (ps_cons q3 (ps_cons q4 (ps_cons q5 (ps_cons q6 (ps_cons q7 ps_nil)))))))) ?_
  unfold mayB
  rw [q0, q1, q2, q3, q4, q5, q6, q7]
  rfl
theorem fi8_run (x v y w h t : Int) : runF P HF 1 22 [.agg #[.int .i64 x, .int .i64 v, .int .i64 y, .int .i64 w, .int .i64 h, .int .i64 t]] (.lit :: (.lit :: (.lit :: (.b false :: (.lit :: (.b false :: (.lit :: (.lit :: (.b false :: (.lit :: (.b false :: (.lit :: (.lit :: (.b false :: (.lit :: (.b false :: (.lit :: (.lit :: (.b false :: (.lit :: (.b false :: (.lit :: (.b true :: (.b true :: (.b true :: []))))))))))))))))))))))))) =
  some (.bool (decide (t ≤ h)), [(decide (x > 2097152)) = false, (decide (x < -2097152)) = false, (decide (v > 131072)) = false, (decide (v < -131072)) = false, (decide (y > 2097152)) = false, (decide (y < -2097152)) = false, (decide (w > 131072)) = false, (decide (w < -131072)) = false, (decide (h ≥ 1)) = true, (decide (h ≤ 4096)) = true, (decide (t ≥ 0)) = true]) := by kernel_rfl
theorem fi8_leaf (x v y w h t : Int)  (q0 : (decide (x > 2097152)) = false) (q1 : (decide (x < -2097152)) = false) (q2 : (decide (v > 131072)) = false) (q3 : (decide (v < -131072)) = false) (q4 : (decide (y > 2097152)) = false) (q5 : (decide (y < -2097152)) = false) (q6 : (decide (w > 131072)) = false) (q7 : (decide (w < -131072)) = false) (q8 : (decide (h ≥ 1)) = true) (q9 : (decide (h ≤ 4096)) = true) (q10 : (decide (t ≥ 0)) = true) : Gives P 22 #[.agg #[.int .i64 x, .int .i64 v, .int .i64 y, .int .i64 w, .int .i64 h, .int .i64 t]] (.bool (mayB x v y w h t)) := by
  have R := fi8_run x v y w h t
  refine gives_of_run mo R (ps_cons q0 (ps_cons q1 (ps_cons q2 (ps_cons q3 (ps_cons q4 (ps_cons q5 (ps_cons q6 (ps_cons q7 (ps_cons q8 (ps_cons q9 (ps_cons q10 ps_nil))))))))))) ?_
  unfold mayB
  rw [q0, q1, q2, q3, q4, q5, q6, q7, q8, q9, q10]
  rfl
theorem fi9_run (x v y w h t : Int) : runF P HF 1 22 [.agg #[.int .i64 x, .int .i64 v, .int .i64 y, .int .i64 w, .int .i64 h, .int .i64 t]] (.lit :: (.lit :: (.lit :: (.b false :: (.lit :: (.b false :: (.lit :: (.lit :: (.b false :: (.lit :: (.b false :: (.lit :: (.lit :: (.b false :: (.lit :: (.b false :: (.lit :: (.lit :: (.b false :: (.lit :: (.b false :: (.lit :: (.b false :: []))))))))))))))))))))))) =
  some (.bool false, [(decide (x > 2097152)) = false, (decide (x < -2097152)) = false, (decide (v > 131072)) = false, (decide (v < -131072)) = false, (decide (y > 2097152)) = false, (decide (y < -2097152)) = false, (decide (w > 131072)) = false, (decide (w < -131072)) = false, (decide (h ≥ 1)) = false]) := by kernel_rfl
theorem fi9_leaf (x v y w h t : Int)  (q0 : (decide (x > 2097152)) = false) (q1 : (decide (x < -2097152)) = false) (q2 : (decide (v > 131072)) = false) (q3 : (decide (v < -131072)) = false) (q4 : (decide (y > 2097152)) = false) (q5 : (decide (y < -2097152)) = false) (q6 : (decide (w > 131072)) = false) (q7 : (decide (w < -131072)) = false) (q8 : (decide (h ≥ 1)) = false) : Gives P 22 #[.agg #[.int .i64 x, .int .i64 v, .int .i64 y, .int .i64 w, .int .i64 h, .int .i64 t]] (.bool (mayB x v y w h t)) := by
  have R := fi9_run x v y w h t
  refine gives_of_run mo R (ps_cons q0 (ps_cons q1 (ps_cons q2 (ps_cons q3 (ps_cons q4 (ps_cons q5 (ps_cons q6 (ps_cons q7 (ps_cons q8 ps_nil))))))))) ?_
  unfold mayB
  rw [q0, q1, q2, q3, q4, q5, q6, q7, q8]
  rfl
theorem fi10_run (x v y w h t : Int) : runF P HF 1 22 [.agg #[.int .i64 x, .int .i64 v, .int .i64 y, .int .i64 w, .int .i64 h, .int .i64 t]] (.lit :: (.lit :: (.lit :: (.b false :: (.lit :: (.b false :: (.lit :: (.lit :: (.b false :: (.lit :: (.b false :: (.lit :: (.lit :: (.b false :: (.lit :: (.b false :: (.lit :: (.lit :: (.b false :: (.lit :: (.b false :: (.lit :: (.b true :: (.b false :: [])))))))))))))))))))))))) =
  some (.bool false, [(decide (x > 2097152)) = false, (decide (x < -2097152)) = false, (decide (v > 131072)) = false, (decide (v < -131072)) = false, (decide (y > 2097152)) = false, (decide (y < -2097152)) = false, (decide (w > 131072)) = false, (decide (w < -131072)) = false, (decide (h ≥ 1)) = true, (decide (h ≤ 4096)) = false]) := by kernel_rfl
theorem fi10_leaf (x v y w h t : Int)  (q0 : (decide (x > 2097152)) = false) (q1 : (decide (x < -2097152)) = false) (q2 : (decide (v > 131072)) = false) (q3 : (decide (v < -131072)) = false) (q4 : (decide (y > 2097152)) = false) (q5 : (decide (y < -2097152)) = false) (q6 : (decide (w > 131072)) = false) (q7 : (decide (w < -131072)) = false) (q8 : (decide (h ≥ 1)) = true) (q9 : (decide (h ≤ 4096)) = false) : Gives P 22 #[.agg #[.int .i64 x, .int .i64 v, .int .i64 y, .int .i64 w, .int .i64 h, .int .i64 t]] (.bool (mayB x v y w h t)) := by
  have R := fi10_run x v y w h t
  refine gives_of_run mo R (ps_cons q0 (ps_cons q1 (ps_cons q2 (ps_cons q3 (ps_cons q4 (ps_cons q5 (ps_cons q6 (ps_cons q7 (ps_cons q8 (ps_cons q9 ps_nil)))))))))) ?_
  unfold mayB
  rw [q0, q1, q2, q3, q4, q5, q6, q7, q8, q9]
  rfl
theorem fi11_run (x v y w h t : Int) : runF P HF 1 22 [.agg #[.int .i64 x, .int .i64 v, .int .i64 y, .int .i64 w, .int .i64 h, .int .i64 t]] (.lit :: (.lit :: (.lit :: (.b false :: (.lit :: (.b false :: (.lit :: (.lit :: (.b false :: (.lit :: (.b false :: (.lit :: (.lit :: (.b false :: (.lit :: (.b false :: (.lit :: (.lit :: (.b false :: (.lit :: (.b false :: (.lit :: (.b true :: (.b true :: (.b false :: []))))))))))))))))))))))))) =
  some (.bool false, [(decide (x > 2097152)) = false, (decide (x < -2097152)) = false, (decide (v > 131072)) = false, (decide (v < -131072)) = false, (decide (y > 2097152)) = false, (decide (y < -2097152)) = false, (decide (w > 131072)) = false, (decide (w < -131072)) = false, (decide (h ≥ 1)) = true, (decide (h ≤ 4096)) = true, (decide (t ≥ 0)) = false]) := by kernel_rfl
theorem fi11_leaf (x v y w h t : Int)  (q0 : (decide (x > 2097152)) = false) (q1 : (decide (x < -2097152)) = false) (q2 : (decide (v > 131072)) = false) (q3 : (decide (v < -131072)) = false) (q4 : (decide (y > 2097152)) = false) (q5 : (decide (y < -2097152)) = false) (q6 : (decide (w > 131072)) = false) (q7 : (decide (w < -131072)) = false) (q8 : (decide (h ≥ 1)) = true) (q9 : (decide (h ≤ 4096)) = true) (q10 : (decide (t ≥ 0)) = false) : Gives P 22 #[.agg #[.int .i64 x, .int .i64 v, .int .i64 y, .int .i64 w, .int .i64 h, .int .i64 t]] (.bool (mayB x v y w h t)) := by
  have R := fi11_run x v y w h t
  refine gives_of_run mo R (ps_cons q0 (ps_cons q1 (ps_cons q2 (ps_cons q3 (ps_cons q4 (ps_cons q5 (ps_cons q6 (ps_cons q7 (ps_cons q8 (ps_cons q9 (ps_cons q10 ps_nil))))))))))) ?_
  unfold mayB
  rw [q0, q1, q2, q3, q4, q5, q6, q7, q8, q9, q10]
  rfl
theorem fi_gives (args : List Value) (h : fiP args) : Gives P 22 args.toArray (fiV args) := by
  unfold fiP at h
  split at h
  · obtain ⟨x, v, y, w, h, t, rfl⟩ := h
    show Gives P _ #[.agg #[.int .i64 x, .int .i64 v, .int .i64 y, .int .i64 w, .int .i64 h, .int .i64 t]] (.bool (mayB x v y w h t))
    cases q0 : (decide (x > 2097152)) with
    | true =>
      exact fi0_leaf x v y w h t  q0
    | false =>
      cases q1 : (decide (x < -2097152)) with
      | true =>
        exact fi1_leaf x v y w h t  q0 q1
      | false =>
        cases q2 : (decide (v > 131072)) with
        | true =>
          exact fi2_leaf x v y w h t  q0 q1 q2
        | false =>
          cases q3 : (decide (v < -131072)) with
          | true =>
            exact fi3_leaf x v y w h t  q0 q1 q2 q3
          | false =>
            cases q4 : (decide (y > 2097152)) with
            | true =>
              exact fi4_leaf x v y w h t  q0 q1 q2 q3 q4
            | false =>
              cases q5 : (decide (y < -2097152)) with
              | true =>
                exact fi5_leaf x v y w h t  q0 q1 q2 q3 q4 q5
              | false =>
                cases q6 : (decide (w > 131072)) with
                | true =>
                  exact fi6_leaf x v y w h t  q0 q1 q2 q3 q4 q5 q6
                | false =>
                  cases q7 : (decide (w < -131072)) with
                  | true =>
                    exact fi7_leaf x v y w h t  q0 q1 q2 q3 q4 q5 q6 q7
                  | false =>
                    cases q8 : (decide (h ≥ 1)) with
                    | true =>
                      cases q9 : (decide (h ≤ 4096)) with
                      | true =>
                        cases q10 : (decide (t ≥ 0)) with
                        | true =>
                          exact fi8_leaf x v y w h t  q0 q1 q2 q3 q4 q5 q6 q7 q8 q9 q10
                        | false =>
                          exact fi11_leaf x v y w h t  q0 q1 q2 q3 q4 q5 q6 q7 q8 q9 q10
                      | false =>
                        exact fi10_leaf x v y w h t  q0 q1 q2 q3 q4 q5 q6 q7 q8 q9
                    | false =>
                      exact fi9_leaf x v y w h t  q0 q1 q2 q3 q4 q5 q6 q7 q8
  · exact h.elim
noncomputable def cFine : Ctr P := ⟨22, fiP, fiV, fi_gives⟩
noncomputable def HE : Env P := ⟨⟨cFine :: (wideC ++ quotC), []⟩, [], 20, []⟩
theorem np_run (x v y w h t : Int) : runF P HE 2 16 [.agg #[.int .i64 x, .int .i64 v, .int .i64 y, .int .i64 w, .int .i64 h, .int .i64 t], .func (.func 17) #[] #[]] (.lit :: (.b false :: (lits 20 (.b false :: (.lit :: (.lit :: (.b false :: (.lit :: (.lit :: (.b false :: [])))))))))) =
  some (.tuple #[.int .i64 (if i64B (tI (W (qv nq (tI (W (tI (W (tI (W (tI (W (tI (W 0) + tI (W (tI (W (wA h t)) * tI (W x))))) + tI (W (tI (W (wB h t)) * tI (W v))))) + tI (W (tI (W (wC h t)) * tI (W y))))) + tI (W (tI (W (wD h t)) * tI (W w)))))) (tI (W (wH h)))))) then tI (W (qv nq (tI (W (tI (W (tI (W (tI (W (tI (W 0) + tI (W (tI (W (wA h t)) * tI (W x))))) + tI (W (tI (W (wB h t)) * tI (W v))))) + tI (W (tI (W (wC h t)) * tI (W y))))) + tI (W (tI (W (wD h t)) * tI (W w)))))) (tI (W (wH h))))) else 0), .int .i64 0], [fiP [.agg #[.int .i64 x, .int .i64 v, .int .i64 y, .int .i64 w, .int .i64 h, .int .i64 t]], (!(mayB x v y w h t)) = false, ofP [.int .i64 (wA h t)], ofP [.int .i64 x], P2 [W (wA h t), W x], 0 < 1000000, ofP [.int .i64 (wB h t)], ofP [.int .i64 v], P2 [W (wB h t), W v], 1 < 1000000, ofP [.int .i64 (wC h t)], ofP [.int .i64 y], P2 [W (wC h t), W y], 2 < 1000000, ofP [.int .i64 (wD h t)], ofP [.int .i64 w], P2 [W (wD h t), W w], 3 < 1000000, 0 < 4, 0 < 4, P2 [W 0, W (tI (W (wA h t)) * tI (W x))], 1 < 4, 1 < 4, P2 [W (tI (W 0) + tI (W (tI (W (wA h t)) * tI (W x)))), W (tI (W (wB h t)) * tI (W v))], (!inRB (tI (W 0) + tI (W (tI (W (wA h t)) * tI (W x))))) = false, 2 < 4, 2 < 4, P2 [W (tI (W (tI (W 0) + tI (W (tI (W (wA h t)) * tI (W x))))) + tI (W (tI (W (wB h t)) * tI (W v)))), W (tI (W (wC h t)) * tI (W y))], (!inRB (tI (W (tI (W 0) + tI (W (tI (W (wA h t)) * tI (W x))))) + tI (W (tI (W (wB h t)) * tI (W v))))) = false, 3 < 4, 3 < 4, P2 [W (tI (W (tI (W (tI (W 0) + tI (W (tI (W (wA h t)) * tI (W x))))) + tI (W (tI (W (wB h t)) * tI (W v))))) + tI (W (tI (W (wC h t)) * tI (W y)))), W (tI (W (wD h t)) * tI (W w))], (!inRB (tI (W (tI (W (tI (W 0) + tI (W (tI (W (wA h t)) * tI (W x))))) + tI (W (tI (W (wB h t)) * tI (W v))))) + tI (W (tI (W (wC h t)) * tI (W y))))) = false, ofP [.int .i64 (wH h)], P2 [W (tI (W (tI (W (tI (W (tI (W 0) + tI (W (tI (W (wA h t)) * tI (W x))))) + tI (W (tI (W (wB h t)) * tI (W v))))) + tI (W (tI (W (wC h t)) * tI (W y))))) + tI (W (tI (W (wD h t)) * tI (W w)))), W (wH h)], P1 [W (qv nq (tI (W (tI (W (tI (W (tI (W (tI (W 0) + tI (W (tI (W (wA h t)) * tI (W x))))) + tI (W (tI (W (wB h t)) * tI (W v))))) + tI (W (tI (W (wC h t)) * tI (W y))))) + tI (W (tI (W (wD h t)) * tI (W w)))))) (tI (W (wH h))))]]) := by kernel_rfl
theorem np_leaf (x v y w h t : Int) (M : May x v y w h t) : Gives P 16 #[.agg #[.int .i64 x, .int .i64 v, .int .i64 y, .int .i64 w, .int .i64 h, .int .i64 t], .func (.func 17) #[] #[]] (.tuple #[.int .i64 (place x v y w h t), .int .i64 0]) := by
  have K := wrs M.h1 M.h2 M.t1 M.t2
  have rx : I64 x := by have := M.x1; have := M.x2; unfold I64; omega
  have rv : I64 v := by have := M.v1; have := M.v2; unfold I64; omega
  have ry : I64 y := by have := M.y1; have := M.y2; unfold I64; omega
  have rw' : I64 w := by have := M.w1; have := M.w2; unfold I64; omega
  have hc := cube M.h1 M.h2
  have rH : I64 (h * h * h) := by unfold I64; omega
  have rH' : I64 (wH h) := by rw [K.H]; exact rH
  have U := su (D := h * h * h) K.rA K.rB K.rC K.rD rx rv ry rw' hc
  have z : 0 + pA h t * x + pB h t * v + pC h t * y + pD h t * w = pS x v y w h t := by unfold pS; omega
  have hi := place_in M
  have tq : tI (W (qv nq (0 + pA h t * x + pB h t * v + pC h t * y + pD h t * w) (h * h * h))) = place x v y w h t := by
    have : qv nq (0 + pA h t * x + pB h t * v + pC h t * y + pD h t * w) (h * h * h) = place x v y w h t := by unfold qv; rw [if_pos U.q, z]; rfl
    rw [this]; exact tI_in (inR64 (by unfold I64; omega))
  have e0 : tI (W (wA h t)) = pA h t := (tI_of K.A (inR64 K.rA))
  have e1 : tI (W x) = x := tI_in (inR64 rx)
  have e2 : tI (W 0) = 0 := tI_in inR_0
  have e3 : tI (W ((pA h t) * x)) = (pA h t) * x := tI_in U.p1
  have e4 : tI (W (wB h t)) = pB h t := (tI_of K.B (inR64 K.rB))
  have e5 : tI (W v) = v := tI_in (inR64 rv)
  have e6 : tI (W (0 + ((pA h t) * x))) = 0 + ((pA h t) * x) := tI_in U.s1
  have e7 : tI (W ((pB h t) * v)) = (pB h t) * v := tI_in U.p2
  have e8 : tI (W (wC h t)) = pC h t := (tI_of K.C (inR64 K.rC))
  have e9 : tI (W y) = y := tI_in (inR64 ry)
  have e10 : tI (W ((0 + ((pA h t) * x)) + ((pB h t) * v))) = (0 + ((pA h t) * x)) + ((pB h t) * v) := tI_in U.s2
  have e11 : tI (W ((pC h t) * y)) = (pC h t) * y := tI_in U.p3
  have e12 : tI (W (wD h t)) = pD h t := (tI_of K.D (inR64 K.rD))
  have e13 : tI (W w) = w := tI_in (inR64 rw')
  have e14 : tI (W (((0 + ((pA h t) * x)) + ((pB h t) * v)) + ((pC h t) * y))) = ((0 + ((pA h t) * x)) + ((pB h t) * v)) + ((pC h t) * y) := tI_in U.s3
  have e15 : tI (W ((pD h t) * w)) = (pD h t) * w := tI_in U.p4
  have e16 : tI (W ((((0 + ((pA h t) * x)) + ((pB h t) * v)) + ((pC h t) * y)) + ((pD h t) * w))) = (((0 + ((pA h t) * x)) + ((pB h t) * v)) + ((pC h t) * y)) + ((pD h t) * w) := tI_in U.s4
  have e17 : tI (W (wH h)) = h * h * h := (tI_of K.H (inR64 rH))
  have e18 : tI (W (qv nq (((((0 + ((pA h t) * x)) + ((pB h t) * v)) + ((pC h t) * y)) + ((pD h t) * w))) ((h * h * h)))) = place x v y w h t := tq
  have R := np_run x v y w h t
  rw [e0, e1, e2, e3, e4, e5, e6, e7, e8, e9, e10, e11, e12, e13, e14, e15, e16, e17, e18] at R
  refine gives_of_run mo R (ps_cons ⟨_, _, _, _, _, _, rfl⟩ (ps_cons (neg_f (may_iff.2 M)) (ps_cons (by show I64 _; rw [K.A]; exact K.rA) (ps_cons rx (ps_cons (P2_W _ _) (ps_cons (by decide) (ps_cons (by show I64 _; rw [K.B]; exact K.rB) (ps_cons rv (ps_cons (P2_W _ _) (ps_cons (by decide) (ps_cons (by show I64 _; rw [K.C]; exact K.rC) (ps_cons ry (ps_cons (P2_W _ _) (ps_cons (by decide) (ps_cons (by show I64 _; rw [K.D]; exact K.rD) (ps_cons rw' (ps_cons (P2_W _ _) (ps_cons (by decide) (ps_cons (by decide) (ps_cons (by decide) (ps_cons (P2_W _ _) (ps_cons (by decide) (ps_cons (by decide) (ps_cons (P2_W _ _) (ps_cons (by rw [inRB_of U.s1]; rfl) (ps_cons (by decide) (ps_cons (by decide) (ps_cons (P2_W _ _) (ps_cons (by rw [inRB_of U.s2]; rfl) (ps_cons (by decide) (ps_cons (by decide) (ps_cons (P2_W _ _) (ps_cons (by rw [inRB_of U.s3]; rfl) (ps_cons rH' (ps_cons (P2_W _ _) (ps_cons (P1_W _) ps_nil)))))))))))))))))))))))))))))))))))) ?_
  have e : i64B (place x v y w h t) = true := by unfold i64B; rw [decide_eq_true (by omega), decide_eq_true (by omega)]; rfl
  rw [if_pos e]
theorem ns_run (x v y w h t : Int) : runF P HE 2 16 [.agg #[.int .i64 x, .int .i64 v, .int .i64 y, .int .i64 w, .int .i64 h, .int .i64 t], .func (.func 20) #[] #[]] (.lit :: (.b false :: (lits 20 (.b false :: (.lit :: (.lit :: (.b false :: (.lit :: (.lit :: (.b false :: [])))))))))) =
  some (.tuple #[.int .i64 (if i64B (tI (W (qv nq (tI (W (tI (W (tI (W (tI (W (tI (W 0) + tI (W (tI (W (uA h t)) * tI (W x))))) + tI (W (tI (W (uB h t)) * tI (W v))))) + tI (W (tI (W (uC h t)) * tI (W y))))) + tI (W (tI (W (uD h t)) * tI (W w)))))) (tI (W (wH h)))))) then tI (W (qv nq (tI (W (tI (W (tI (W (tI (W (tI (W 0) + tI (W (tI (W (uA h t)) * tI (W x))))) + tI (W (tI (W (uB h t)) * tI (W v))))) + tI (W (tI (W (uC h t)) * tI (W y))))) + tI (W (tI (W (uD h t)) * tI (W w)))))) (tI (W (wH h))))) else 0), .int .i64 0], [fiP [.agg #[.int .i64 x, .int .i64 v, .int .i64 y, .int .i64 w, .int .i64 h, .int .i64 t]], (!(mayB x v y w h t)) = false, ofP [.int .i64 (uA h t)], ofP [.int .i64 x], P2 [W (uA h t), W x], 0 < 1000000, ofP [.int .i64 (uB h t)], ofP [.int .i64 v], P2 [W (uB h t), W v], 1 < 1000000, ofP [.int .i64 (uC h t)], ofP [.int .i64 y], P2 [W (uC h t), W y], 2 < 1000000, ofP [.int .i64 (uD h t)], ofP [.int .i64 w], P2 [W (uD h t), W w], 3 < 1000000, 0 < 4, 0 < 4, P2 [W 0, W (tI (W (uA h t)) * tI (W x))], 1 < 4, 1 < 4, P2 [W (tI (W 0) + tI (W (tI (W (uA h t)) * tI (W x)))), W (tI (W (uB h t)) * tI (W v))], (!inRB (tI (W 0) + tI (W (tI (W (uA h t)) * tI (W x))))) = false, 2 < 4, 2 < 4, P2 [W (tI (W (tI (W 0) + tI (W (tI (W (uA h t)) * tI (W x))))) + tI (W (tI (W (uB h t)) * tI (W v)))), W (tI (W (uC h t)) * tI (W y))], (!inRB (tI (W (tI (W 0) + tI (W (tI (W (uA h t)) * tI (W x))))) + tI (W (tI (W (uB h t)) * tI (W v))))) = false, 3 < 4, 3 < 4, P2 [W (tI (W (tI (W (tI (W 0) + tI (W (tI (W (uA h t)) * tI (W x))))) + tI (W (tI (W (uB h t)) * tI (W v))))) + tI (W (tI (W (uC h t)) * tI (W y)))), W (tI (W (uD h t)) * tI (W w))], (!inRB (tI (W (tI (W (tI (W 0) + tI (W (tI (W (uA h t)) * tI (W x))))) + tI (W (tI (W (uB h t)) * tI (W v))))) + tI (W (tI (W (uC h t)) * tI (W y))))) = false, ofP [.int .i64 (wH h)], P2 [W (tI (W (tI (W (tI (W (tI (W 0) + tI (W (tI (W (uA h t)) * tI (W x))))) + tI (W (tI (W (uB h t)) * tI (W v))))) + tI (W (tI (W (uC h t)) * tI (W y))))) + tI (W (tI (W (uD h t)) * tI (W w)))), W (wH h)], P1 [W (qv nq (tI (W (tI (W (tI (W (tI (W (tI (W 0) + tI (W (tI (W (uA h t)) * tI (W x))))) + tI (W (tI (W (uB h t)) * tI (W v))))) + tI (W (tI (W (uC h t)) * tI (W y))))) + tI (W (tI (W (uD h t)) * tI (W w)))))) (tI (W (wH h))))]]) := by kernel_rfl
theorem ns_leaf (x v y w h t : Int) (M : May x v y w h t) : Gives P 16 #[.agg #[.int .i64 x, .int .i64 v, .int .i64 y, .int .i64 w, .int .i64 h, .int .i64 t], .func (.func 20) #[] #[]] (.tuple #[.int .i64 (speed x v y w h t), .int .i64 0]) := by
  have K := wrs M.h1 M.h2 M.t1 M.t2
  have rx : I64 x := by have := M.x1; have := M.x2; unfold I64; omega
  have rv : I64 v := by have := M.v1; have := M.v2; unfold I64; omega
  have ry : I64 y := by have := M.y1; have := M.y2; unfold I64; omega
  have rw' : I64 w := by have := M.w1; have := M.w2; unfold I64; omega
  have hc := cube M.h1 M.h2
  have rH : I64 (h * h * h) := by unfold I64; omega
  have rH' : I64 (wH h) := by rw [K.H]; exact rH
  have U := su (D := h * h * h) K.ra K.rb K.rc K.rd rx rv ry rw' hc
  have z : 0 + qA h t * x + qB h t * v + qC h t * y + qD h t * w = qS x v y w h t := by unfold qS; omega
  have hi := speed_in M
  have tq : tI (W (qv nq (0 + qA h t * x + qB h t * v + qC h t * y + qD h t * w) (h * h * h))) = speed x v y w h t := by
    have : qv nq (0 + qA h t * x + qB h t * v + qC h t * y + qD h t * w) (h * h * h) = speed x v y w h t := by unfold qv; rw [if_pos U.q, z]; rfl
    rw [this]; exact tI_in (inR64 (by unfold I64; omega))
  have e0 : tI (W (uA h t)) = qA h t := (tI_of K.a (inR64 K.ra))
  have e1 : tI (W x) = x := tI_in (inR64 rx)
  have e2 : tI (W 0) = 0 := tI_in inR_0
  have e3 : tI (W ((qA h t) * x)) = (qA h t) * x := tI_in U.p1
  have e4 : tI (W (uB h t)) = qB h t := (tI_of K.b (inR64 K.rb))
  have e5 : tI (W v) = v := tI_in (inR64 rv)
  have e6 : tI (W (0 + ((qA h t) * x))) = 0 + ((qA h t) * x) := tI_in U.s1
  have e7 : tI (W ((qB h t) * v)) = (qB h t) * v := tI_in U.p2
  have e8 : tI (W (uC h t)) = qC h t := (tI_of K.c (inR64 K.rc))
  have e9 : tI (W y) = y := tI_in (inR64 ry)
  have e10 : tI (W ((0 + ((qA h t) * x)) + ((qB h t) * v))) = (0 + ((qA h t) * x)) + ((qB h t) * v) := tI_in U.s2
  have e11 : tI (W ((qC h t) * y)) = (qC h t) * y := tI_in U.p3
  have e12 : tI (W (uD h t)) = qD h t := (tI_of K.d (inR64 K.rd))
  have e13 : tI (W w) = w := tI_in (inR64 rw')
  have e14 : tI (W (((0 + ((qA h t) * x)) + ((qB h t) * v)) + ((qC h t) * y))) = ((0 + ((qA h t) * x)) + ((qB h t) * v)) + ((qC h t) * y) := tI_in U.s3
  have e15 : tI (W ((qD h t) * w)) = (qD h t) * w := tI_in U.p4
  have e16 : tI (W ((((0 + ((qA h t) * x)) + ((qB h t) * v)) + ((qC h t) * y)) + ((qD h t) * w))) = (((0 + ((qA h t) * x)) + ((qB h t) * v)) + ((qC h t) * y)) + ((qD h t) * w) := tI_in U.s4
  have e17 : tI (W (wH h)) = h * h * h := (tI_of K.H (inR64 rH))
  have e18 : tI (W (qv nq (((((0 + ((qA h t) * x)) + ((qB h t) * v)) + ((qC h t) * y)) + ((qD h t) * w))) ((h * h * h)))) = speed x v y w h t := tq
  have R := ns_run x v y w h t
  rw [e0, e1, e2, e3, e4, e5, e6, e7, e8, e9, e10, e11, e12, e13, e14, e15, e16, e17, e18] at R
  refine gives_of_run mo R (ps_cons ⟨_, _, _, _, _, _, rfl⟩ (ps_cons (neg_f (may_iff.2 M)) (ps_cons (by show I64 _; rw [K.a]; exact K.ra) (ps_cons rx (ps_cons (P2_W _ _) (ps_cons (by decide) (ps_cons (by show I64 _; rw [K.b]; exact K.rb) (ps_cons rv (ps_cons (P2_W _ _) (ps_cons (by decide) (ps_cons (by show I64 _; rw [K.c]; exact K.rc) (ps_cons ry (ps_cons (P2_W _ _) (ps_cons (by decide) (ps_cons (by show I64 _; rw [K.d]; exact K.rd) (ps_cons rw' (ps_cons (P2_W _ _) (ps_cons (by decide) (ps_cons (by decide) (ps_cons (by decide) (ps_cons (P2_W _ _) (ps_cons (by decide) (ps_cons (by decide) (ps_cons (P2_W _ _) (ps_cons (by rw [inRB_of U.s1]; rfl) (ps_cons (by decide) (ps_cons (by decide) (ps_cons (P2_W _ _) (ps_cons (by rw [inRB_of U.s2]; rfl) (ps_cons (by decide) (ps_cons (by decide) (ps_cons (P2_W _ _) (ps_cons (by rw [inRB_of U.s3]; rfl) (ps_cons rH' (ps_cons (P2_W _ _) (ps_cons (P1_W _) ps_nil)))))))))))))))))))))))))))))))))))) ?_
  have e : i64B (speed x v y w h t) = true := by unfold i64B; rw [decide_eq_true (by omega), decide_eq_true (by omega)]; rfl
  rw [if_pos e]
theorem np_no (x v y w h t : Int) : runF P HE 2 16 [.agg #[.int .i64 x, .int .i64 v, .int .i64 y, .int .i64 w, .int .i64 h, .int .i64 t], .func (.func 17) #[] #[]] (.lit :: (.b true :: [])) = some (.tuple #[.int .i64 0, .int .i64 2], [fiP [.agg #[.int .i64 x, .int .i64 v, .int .i64 y, .int .i64 w, .int .i64 h, .int .i64 t]], (!(mayB x v y w h t)) = true]) := by kernel_rfl
theorem np_bad (x v y w h t : Int) (b : (mayB x v y w h t) = false) : Gives P 16 #[.agg #[.int .i64 x, .int .i64 v, .int .i64 y, .int .i64 w, .int .i64 h, .int .i64 t], .func (.func 17) #[] #[]] (.tuple #[.int .i64 0, .int .i64 2]) :=
  gives_of_run mo (np_no x v y w h t) (ps_cons ⟨_, _, _, _, _, _, rfl⟩ (ps_cons (neg_t b) ps_nil)) rfl
theorem ns_no (x v y w h t : Int) : runF P HE 2 16 [.agg #[.int .i64 x, .int .i64 v, .int .i64 y, .int .i64 w, .int .i64 h, .int .i64 t], .func (.func 20) #[] #[]] (.lit :: (.b true :: [])) = some (.tuple #[.int .i64 0, .int .i64 2], [fiP [.agg #[.int .i64 x, .int .i64 v, .int .i64 y, .int .i64 w, .int .i64 h, .int .i64 t]], (!(mayB x v y w h t)) = true]) := by kernel_rfl
theorem ns_bad (x v y w h t : Int) (b : (mayB x v y w h t) = false) : Gives P 16 #[.agg #[.int .i64 x, .int .i64 v, .int .i64 y, .int .i64 w, .int .i64 h, .int .i64 t], .func (.func 20) #[] #[]] (.tuple #[.int .i64 0, .int .i64 2]) :=
  gives_of_run mo (ns_no x v y w h t) (ps_cons ⟨_, _, _, _, _, _, rfl⟩ (ps_cons (neg_t b) ps_nil)) rfl
def placeI (x v y w h t : Int) : Int := bif mayB x v y w h t then place x v y w h t else 0
def speedI (x v y w h t : Int) : Int := bif mayB x v y w h t then speed x v y w h t else 0
def neP : List Value → Prop
  | [a, f] => (∃ x v y w h t, a = Cu x v y w h t) ∧ (f = .func (.func 17) #[] #[] ∨ f = .func (.func 20) #[] #[])
  | _ => False
def neG (g : Nat) (x v y w h t : Int) : Int := bif Nat.beq g 17 then placeI x v y w h t else speedI x v y w h t
def neV : List Value → Value
  | [.agg cs, .func (.func g) _ _] => match cs.toList with
    | [.int _ x, .int _ v, .int _ y, .int _ w, .int _ h, .int _ t] => .tuple #[.int .i64 (neG g x v y w h t), .int .i64 (bif mayB x v y w h t then 0 else 2)]
    | _ => undef
  | _ => undef
theorem ne_gives (args : List Value) (hp : neP args) : Gives P 16 args.toArray (neV args) := by
  unfold neP at hp
  split at hp
  · obtain ⟨⟨x, v, y, w, h, t, rfl⟩, rfl | rfl⟩ := hp
    · show Gives P _ #[.agg #[.int .i64 x, .int .i64 v, .int .i64 y, .int .i64 w, .int .i64 h, .int .i64 t], .func (.func 17) #[] #[]] (.tuple #[.int .i64 (placeI x v y w h t), .int .i64 (bif mayB x v y w h t then 0 else 2)])
      unfold placeI
      cases b : mayB x v y w h t with
      | true => exact np_leaf x v y w h t (may_iff.1 b)
      | false => exact np_bad x v y w h t b
    · show Gives P _ #[.agg #[.int .i64 x, .int .i64 v, .int .i64 y, .int .i64 w, .int .i64 h, .int .i64 t], .func (.func 20) #[] #[]] (.tuple #[.int .i64 (speedI x v y w h t), .int .i64 (bif mayB x v y w h t then 0 else 2)])
      unfold speedI
      cases b : mayB x v y w h t with
      | true => exact ns_leaf x v y w h t (may_iff.1 b)
      | false => exact ns_bad x v y w h t b
  · exact hp.elim
noncomputable def cNear : Ctr P := ⟨16, neP, neV, ne_gives⟩
noncomputable def HN : Env P := ⟨⟨[cNear], []⟩, [], 20, []⟩
theorem pl_run (x v y w h t : Int) : runF P HN 1 6 [.int .i64 x, .int .i64 v, .int .i64 y, .int .i64 w, .int .i64 h, .int .i64 t] [] = some (.tuple #[.int .i64 (placeI x v y w h t), .int .i64 (bif mayB x v y w h t then 0 else 2)], [neP [.agg #[.int .i64 x, .int .i64 v, .int .i64 y, .int .i64 w, .int .i64 h, .int .i64 t], .func (.func 17) #[] #[]]]) := by kernel_rfl
def plP : List Value → Prop
  | [.int .i64 _, .int .i64 _, .int .i64 _, .int .i64 _, .int .i64 _, .int .i64 _] => True
  | _ => False
def plV : List Value → Value
  | [.int _ x, .int _ v, .int _ y, .int _ w, .int _ h, .int _ t] => .tuple #[.int .i64 (placeI x v y w h t), .int .i64 (bif mayB x v y w h t then 0 else 2)]
  | _ => undef
theorem pl_gives (args : List Value) (hp : plP args) : Gives P 6 args.toArray (plV args) := by
  unfold plP at hp
  split at hp
  · rename_i x v y w h t
    show Gives P _ #[.int .i64 x, .int .i64 v, .int .i64 y, .int .i64 w, .int .i64 h, .int .i64 t] (.tuple #[.int .i64 (placeI x v y w h t), .int .i64 (bif mayB x v y w h t then 0 else 2)])
    exact gives_of_run mo (pl_run x v y w h t) (ps_cons ⟨⟨_, _, _, _, _, _, rfl⟩, .inl rfl⟩ ps_nil) rfl
  · exact hp.elim
noncomputable def cPlace : Ctr P := ⟨6, plP, plV, pl_gives⟩
theorem sp_run (x v y w h t : Int) : runF P HN 1 8 [.int .i64 x, .int .i64 v, .int .i64 y, .int .i64 w, .int .i64 h, .int .i64 t] [] = some (.tuple #[.int .i64 (speedI x v y w h t), .int .i64 (bif mayB x v y w h t then 0 else 2)], [neP [.agg #[.int .i64 x, .int .i64 v, .int .i64 y, .int .i64 w, .int .i64 h, .int .i64 t], .func (.func 20) #[] #[]]]) := by kernel_rfl
def spP : List Value → Prop
  | [.int .i64 _, .int .i64 _, .int .i64 _, .int .i64 _, .int .i64 _, .int .i64 _] => True
  | _ => False
def spV : List Value → Value
  | [.int _ x, .int _ v, .int _ y, .int _ w, .int _ h, .int _ t] => .tuple #[.int .i64 (speedI x v y w h t), .int .i64 (bif mayB x v y w h t then 0 else 2)]
  | _ => undef
theorem sp_gives (args : List Value) (hp : spP args) : Gives P 8 args.toArray (spV args) := by
  unfold spP at hp
  split at hp
  · rename_i x v y w h t
    show Gives P _ #[.int .i64 x, .int .i64 v, .int .i64 y, .int .i64 w, .int .i64 h, .int .i64 t] (.tuple #[.int .i64 (speedI x v y w h t), .int .i64 (bif mayB x v y w h t then 0 else 2)])
    exact gives_of_run mo (sp_run x v y w h t) (ps_cons ⟨⟨_, _, _, _, _, _, rfl⟩, .inr rfl⟩ ps_nil) rfl
  · exact hp.elim
noncomputable def cSpeed : Ctr P := ⟨8, spP, spV, sp_gives⟩
theorem we_run (h t : Int) : runF P HE 2 10 [.int .i64 h, .int .i64 t] (.b false :: []) = some (.tuple #[.agg #[.int .i64 (wA h t), .int .i64 (wB h t), .int .i64 (wC h t), .int .i64 (wD h t)], .int .i64 0], [fiP [.agg #[.int .i64 0, .int .i64 0, .int .i64 0, .int .i64 0, .int .i64 h, .int .i64 t]], (!(mayB 0 0 0 0 h t)) = false]) := by kernel_rfl
theorem we_no (h t : Int) : runF P HE 1 10 [.int .i64 h, .int .i64 t] (.b true :: []) = some (.tuple #[.agg #[.int .i64 0, .int .i64 0, .int .i64 0, .int .i64 0], .int .i64 2], [fiP [.agg #[.int .i64 0, .int .i64 0, .int .i64 0, .int .i64 0, .int .i64 h, .int .i64 t]], (!(mayB 0 0 0 0 h t)) = true]) := by kernel_rfl
theorem we_bad (h t : Int) (b : (mayB 0 0 0 0 h t) = false) : Gives P 10 #[.int .i64 h, .int .i64 t] (.tuple #[.agg #[.int .i64 0, .int .i64 0, .int .i64 0, .int .i64 0], .int .i64 2]) :=
  gives_of_run mo (we_no h t) (ps_cons ⟨_, _, _, _, _, _, rfl⟩ (ps_cons (neg_t b) ps_nil)) rfl
def weP : List Value → Prop
  | [.int .i64 _, .int .i64 _] => True
  | _ => False
def weI (f : Int → Int → Int) (h t : Int) : Int := bif mayB 0 0 0 0 h t then f h t else 0
def weE (h t : Int) : Int := bif mayB 0 0 0 0 h t then 0 else 2
def weV : List Value → Value
  | [.int _ h, .int _ t] => .tuple #[.agg #[.int .i64 (weI pA h t), .int .i64 (weI pB h t), .int .i64 (weI pC h t), .int .i64 (weI pD h t)], .int .i64 (weE h t)]
  | _ => undef
theorem we_gives (args : List Value) (hp : weP args) : Gives P 10 args.toArray (weV args) := by
  unfold weP at hp
  split at hp
  · rename_i h t
    show Gives P _ #[.int .i64 h, .int .i64 t] (.tuple #[.agg #[.int .i64 (weI pA h t), .int .i64 (weI pB h t), .int .i64 (weI pC h t), .int .i64 (weI pD h t)], .int .i64 (weE h t)])
    unfold weI weE
    cases b : mayB 0 0 0 0 h t with
    | true =>
      have m := may_zero.1 b
      have K := wrs m.1 m.2.1 m.2.2.1 m.2.2.2
      refine gives_of_run mo (we_run h t) (ps_cons ⟨_, _, _, _, _, _, rfl⟩ (ps_cons (neg_f b) ps_nil)) ?_
      rw [K.A, K.B, K.C, K.D]
      rfl
    | false => exact we_bad h t b
  · exact hp.elim
noncomputable def cWeights : Ctr P := ⟨10, weP, weV, we_gives⟩
noncomputable def hermC : List (Ctr P) := [cNear, cPlace, cSpeed, cWeights]
end Go.He
