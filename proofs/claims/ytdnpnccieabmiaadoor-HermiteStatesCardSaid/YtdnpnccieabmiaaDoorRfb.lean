/-
  Contracts of the document's answer for wide numbers (gyreref02), first part: digits by 2^32.
-/
import Derived.Test.YtdnpnccieabmiaaDoorLawA
import Derived.Test.YtdnpnccieabmiaaDoorSxc
set_option maxRecDepth 100000
namespace Go.Rd
open Go Go.RowKit Go.Sx Go.Nm Go.Wd Go.Proofs
abbrev D1 : Int := 4294967296
abbrev D2 : Int := 18446744073709551616
abbrev D3 : Int := 79228162514264337593543950336
abbrev D4 : Int := 340282366920938463463374607431768211456
abbrev D5 : Int := 1461501637330902918203684832716283019655932542976
abbrev D6 : Int := 6277101735386680763835789423207666416102355444464034512896
abbrev D7 : Int := 26959946667150639794667015087019630673637144422540572481103610249216
def g0 (n : Int) : Int := n % D1
def g1 (n : Int) : Int := n / D1 % D1
def g2 (n : Int) : Int := n / D2 % D1
def g3 (n : Int) : Int := n / D3 % D1
def g4 (n : Int) : Int := n / D4 % D1
def g5 (n : Int) : Int := n / D5 % D1
def g6 (n : Int) : Int := n / D6 % D1
def g7 (n : Int) : Int := n / D7 % D1
def agg8 (a b c d e f g h : Int) : Value := .agg #[.int .u64 a, .int .u64 b, .int .u64 c, .int .u64 d, .int .u64 e, .int .u64 f, .int .u64 g, .int .u64 h]
def Dg (n : Int) : Value := agg8 (g0 n) (g1 n) (g2 n) (g3 n) (g4 n) (g5 n) (g6 n) (g7 n)
def Dig (x : Int) : Prop := 0 ≤ x ∧ x < D1
theorem g0_dig (n : Int) : Dig (g0 n) := by unfold Dig g0; simp only [D1]; omega
theorem g1_dig (n : Int) : Dig (g1 n) := by unfold Dig g1; simp only [D1]; omega
theorem g2_dig (n : Int) : Dig (g2 n) := by unfold Dig g2; simp only [D1, D2]; omega
theorem g3_dig (n : Int) : Dig (g3 n) := by unfold Dig g3; simp only [D1, D3]; omega
theorem g4_dig (n : Int) : Dig (g4 n) := by unfold Dig g4; simp only [D1, D4]; omega
theorem g5_dig (n : Int) : Dig (g5 n) := by unfold Dig g5; simp only [D1, D5]; omega
theorem g6_dig (n : Int) : Dig (g6 n) := by unfold Dig g6; simp only [D1, D6]; omega
theorem g7_dig (n : Int) : Dig (g7 n) := by unfold Dig g7; simp only [D1, D7]; omega
theorem g_w0 (n : Int) : w0 n = g0 n + D1 * g1 n := by unfold w0 g0 g1; simp only [BB, D1]; omega
theorem g_w1 (n : Int) : w1 n = g2 n + D1 * g3 n := by unfold w1 g2 g3; simp only [BB, D1, D2, D3]; omega
theorem g_w2 (n : Int) : w2 n = g4 n + D1 * g5 n := by unfold w2 g4 g5; simp only [BB, B2, D1, D4, D5]; omega
theorem g_w3 (n : Int) : w3 n = g6 n + D1 * g7 n := by unfold w3 g6 g7; simp only [BB, B3, D1, D6, D7]; omega
theorem g_sum (n : Int) : g0 n + D1 * g1 n + D2 * g2 n + D3 * g3 n + D4 * g4 n + D5 * g5 n + D6 * g6 n + D7 * g7 n = n % MM := by
  have := words_sum n
  rw [g_w0, g_w1, g_w2, g_w3] at this
  simp only [BB, B2, B3, MM, D1, D2, D3, D4, D5, D6, D7] at *
  omega
theorem Dg_of {a b c d e f g h n : Int} (ha : Dig a) (hb : Dig b) (hc : Dig c) (hd : Dig d) (he : Dig e) (hf : Dig f) (hg : Dig g) (hh : Dig h)
    (hs : (a + D1 * b + D2 * c + D3 * d + D4 * e + D5 * f + D6 * g + D7 * h) % MM = n % MM) : agg8 a b c d e f g h = Dg n := by
  have s := g_sum n
  have i0 := g0_dig n
  have i1 := g1_dig n
  have i2 := g2_dig n
  have i3 := g3_dig n
  have i4 := g4_dig n
  have i5 := g5_dig n
  have i6 := g6_dig n
  have i7 := g7_dig n
  unfold Dig at *
  have e0 : g0 n = a := by simp only [MM, D1, D2, D3, D4, D5, D6, D7] at *; omega
  have e1 : g1 n = b := by simp only [MM, D1, D2, D3, D4, D5, D6, D7] at *; omega
  have e2 : g2 n = c := by simp only [MM, D1, D2, D3, D4, D5, D6, D7] at *; omega
  have e3 : g3 n = d := by simp only [MM, D1, D2, D3, D4, D5, D6, D7] at *; omega
  have e4 : g4 n = e := by simp only [MM, D1, D2, D3, D4, D5, D6, D7] at *; omega
  have e5 : g5 n = f := by simp only [MM, D1, D2, D3, D4, D5, D6, D7] at *; omega
  have e6 : g6 n = g := by simp only [MM, D1, D2, D3, D4, D5, D6, D7] at *; omega
  have e7 : g7 n = h := by simp only [MM, D1, D2, D3, D4, D5, D6, D7] at *; omega
  unfold Dg
  rw [e0, e1, e2, e3, e4, e5, e6, e7]
theorem Dg_congr {m n : Int} (h : m % MM = n % MM) : Dg m = Dg n :=
  Dg_of (g0_dig m) (g1_dig m) (g2_dig m) (g3_dig m) (g4_dig m) (g5_dig m) (g6_dig m) (g7_dig m) (by rw [g_sum]; simp only [MM] at *; omega)
def IsD (v : Value) : Prop := ∃ n, v = Dg n
noncomputable def F0 : Env P := ⟨⟨[], []⟩, [], 10, []⟩
def dn (v : Value) : Int :=
  match v with
  | .agg #[.int _ a, .int _ b, .int _ c, .int _ d, .int _ e, .int _ f, .int _ g, .int _ h] => bm (a + D1 * b + D2 * c + D3 * d + D4 * e + D5 * f + D6 * g + D7 * h)
  | _ => 0
theorem dn_Dg (n : Int) : dn (Dg n) = bm n := by
  have : dn (Dg n) = bm (g0 n + D1 * g1 n + D2 * g2 n + D3 * g3 n + D4 * g4 n + D5 * g5 n + D6 * g6 n + D7 * g7 n) := rfl
  rw [this, g_sum]
  exact bm_congr (by simp only [MM]; omega)
def digitsV : List Value → Value
  | [x] => Dg (tI x)
  | _ => undef
theorem digits_run (a : Int) : runF P F0 1 75 [W a] [] = some (agg8 ((w0 a).tmod 4294967296) (IntKind.u64.wrap ((w0 a).tdiv 4294967296)) ((w1 a).tmod 4294967296) (IntKind.u64.wrap ((w1 a).tdiv 4294967296))
    ((w2 a).tmod 4294967296) (IntKind.u64.wrap ((w2 a).tdiv 4294967296)) ((w3 a).tmod 4294967296) (IntKind.u64.wrap ((w3 a).tdiv 4294967296)), []) := by kernel_rfl
theorem tmod_dig {x : Int} (h : 0 ≤ x) : x.tmod 4294967296 = x % D1 := Int.tmod_eq_emod_of_nonneg h
theorem tdiv_dig {x : Int} (h : 0 ≤ x) : x.tdiv 4294967296 = x / D1 := Int.tdiv_eq_ediv_of_nonneg h
theorem wrap_in {x : Int} (h : 0 ≤ x) (h2 : x < BB) : IntKind.u64.wrap x = x := by rw [wrap_u64]; simp only [BB] at *; omega
theorem digits_gives (args : List Value) (h : P1 args) : Gives P 75 args.toArray (digitsV args) := by
  unfold P1 at h
  split at h
  · obtain ⟨n, rfl⟩ := h
    refine gives_of_run mo (digits_run n) ps_nil ?_
    have r0 := w0_range n
    have r1 := w1_range n
    have r2 := w2_range n
    have r3 := w3_range n
    have s := words_sum n
    have hm := bm_mod n
    simp only [digitsV, tI_W]
    rw [tmod_dig r0.1, tmod_dig r1.1, tmod_dig r2.1, tmod_dig r3.1, tdiv_dig r0.1, tdiv_dig r1.1, tdiv_dig r2.1, tdiv_dig r3.1]
    have q : ∀ {x : Int}, 0 ≤ x ∧ x < BB → IntKind.u64.wrap (x / D1) = x / D1 ∧ Dig (x / D1) ∧ Dig (x % D1) := fun {x} h => by
      unfold Dig
      refine ⟨wrap_in ?_ ?_, ⟨?_, ?_⟩, ?_, ?_⟩ <;> simp only [BB, D1] at * <;> omega
    rw [(q r0).1, (q r1).1, (q r2).1, (q r3).1]
    refine Dg_of (q r0).2.2 (q r0).2.1 (q r1).2.2 (q r1).2.1 (q r2).2.2 (q r2).2.1 (q r3).2.2 (q r3).2.1 ?_
    rw [hm, ← Int.emod_emod_of_dvd n (Int.dvd_refl MM), ← s]
    congr 1
    simp only [BB, B2, B3, D1, D2, D3, D4, D5, D6, D7] at *
    omega
  · exact h.elim
noncomputable def digits : Ctr P := ⟨75, P1, digitsV, digits_gives⟩
def D1P : List Value → Prop
  | [x] => IsD x
  | _ => False
def wideV : List Value → Value
  | [x] => W (dn x)
  | _ => undef
theorem wide_run (a b c d e f g h : Int) : runF P F0 1 54 [agg8 a b c d e f g h] [] = some (.agg #[.int .u64 (IntKind.u64.wrap (IntKind.u64.wrap (b * 4294967296) + a)), .int .u64 (IntKind.u64.wrap (IntKind.u64.wrap (d * 4294967296) + c)), .int .u64 (IntKind.u64.wrap (IntKind.u64.wrap (f * 4294967296) + e)), .int .u64 (IntKind.u64.wrap (IntKind.u64.wrap (h * 4294967296) + g))], []) := by kernel_rfl
theorem wide_gives (args : List Value) (h : D1P args) : Gives P 54 args.toArray (wideV args) := by
  unfold D1P at h
  split at h
  · obtain ⟨n, rfl⟩ := h
    refine gives_of_run mo (wide_run (g0 n) (g1 n) (g2 n) (g3 n) (g4 n) (g5 n) (g6 n) (g7 n)) ps_nil ?_
    have q : ∀ {x y : Int}, Dig x → Dig y → IntKind.u64.wrap (IntKind.u64.wrap (y * 4294967296) + x) = x + D1 * y := fun {x y} hx hy => by
      unfold Dig at *
      simp only [D1] at *
      rw [wrap_in (x := y * 4294967296) (by omega) (by simp only [BB]; omega), wrap_in (by omega) (by simp only [BB]; omega)]
      omega
    rw [q (g0_dig n) (g1_dig n), q (g2_dig n) (g3_dig n), q (g4_dig n) (g5_dig n), q (g6_dig n) (g7_dig n), ← g_w0, ← g_w1, ← g_w2, ← g_w3]
    show W n = W (dn (Dg n))
    rw [dn_Dg]
    exact W_congr (bm_mod n).symm
  · exact h.elim
noncomputable def wide : Ctr P := ⟨54, D1P, wideV, wide_gives⟩
theorem low_run (a : Int) : runF P F0 1 55 [W a] [] = some (.bool ((w3 a).fdiv (2 ^ 63) == 1), []) := by kernel_rfl
theorem low_gives (args : List Value) (h : P1 args) : Gives P 55 args.toArray (lowV args) := by
  unfold P1 at h
  split at h
  · obtain ⟨n, rfl⟩ := h
    refine gives_of_run mo (low_run n) ps_nil ?_
    simp only [lowV, tI_W]
    congr 1
    have s := words_sum n
    have r0 := w0_range n
    have r1 := w1_range n
    have r2 := w2_range n
    have r3 := w3_range n
    have hm := bm_mod n
    have hr := bm_range n
    unfold InR at hr
    rw [Int.fdiv_eq_ediv_of_nonneg _ (by decide), Bool.eq_iff_iff, beq_iff_eq, decide_eq_true_iff]
    have e : ((2 : Int) ^ 63) = 9223372036854775808 := by decide
    rw [e]
    simp only [BB, B2, B3, MM, HH] at *
    omega
  · exact h.elim
noncomputable def low : Ctr P := ⟨55, P1, lowV, low_gives⟩
def notV : List Value → Value
  | [x] => Dg (-1 - dn x)
  | _ => undef
def nt (x : Int) : Int := IntKind.u64.wrap (4294967295 - x)
theorem not_run (a b c d e f g h : Int) : runF P F0 1 77 [agg8 a b c d e f g h] [] = some (agg8 (nt a) (nt b) (nt c) (nt d) (nt e) (nt f) (nt g) (nt h), []) := by kernel_rfl
theorem nt_dig {x : Int} (h : Dig x) : nt x = 4294967295 - x ∧ Dig (4294967295 - x) := by
  unfold Dig at *
  unfold nt
  simp only [D1] at *
  exact ⟨wrap_in (by omega) (by simp only [BB]; omega), by omega, by omega⟩
theorem not_gives (args : List Value) (h : D1P args) : Gives P 77 args.toArray (notV args) := by
  unfold D1P at h
  split at h
  · obtain ⟨n, rfl⟩ := h
    refine gives_of_run mo (not_run (g0 n) (g1 n) (g2 n) (g3 n) (g4 n) (g5 n) (g6 n) (g7 n)) ps_nil ?_
    have q0 := nt_dig (g0_dig n)
    have q1 := nt_dig (g1_dig n)
    have q2 := nt_dig (g2_dig n)
    have q3 := nt_dig (g3_dig n)
    have q4 := nt_dig (g4_dig n)
    have q5 := nt_dig (g5_dig n)
    have q6 := nt_dig (g6_dig n)
    have q7 := nt_dig (g7_dig n)
    rw [q0.1, q1.1, q2.1, q3.1, q4.1, q5.1, q6.1, q7.1]
    simp only [notV, dn_Dg]
    refine Dg_of q0.2 q1.2 q2.2 q3.2 q4.2 q5.2 q6.2 q7.2 ?_
    have s := g_sum n
    have hm := bm_mod n
    simp only [MM, D1, D2, D3, D4, D5, D6, D7] at *
    omega
  · exact h.elim
noncomputable def not : Ctr P := ⟨77, D1P, notV, not_gives⟩
def plusP : List Value → Prop
  | [x, y, .int .u64 c] => IsD x ∧ IsD y ∧ 0 ≤ c ∧ c ≤ 1
  | _ => False
def plusV : List Value → Value
  | [x, y, .int _ c] => Dg (dn x + dn y + c)
  | _ => undef
def pS (x y c : Int) : Int := IntKind.u64.wrap (IntKind.u64.wrap (x + y) + c)
def pC (x y c : Int) : Int := IntKind.u64.wrap ((pS x y c).tdiv 4294967296)
def pR (x y c : Int) : Int := (pS x y c).tmod 4294967296
def c1 (a0 b0 c : Int) := pC a0 b0 c
theorem plus_run (a0 a1 a2 a3 a4 a5 a6 a7 b0 b1 b2 b3 b4 b5 b6 b7 c : Int) : runF P F0 1 76 [agg8 a0 a1 a2 a3 a4 a5 a6 a7, agg8 b0 b1 b2 b3 b4 b5 b6 b7, .int .u64 c] [] =
    some (agg8 (pR a0 b0 c) (pR a1 b1 (pC a0 b0 c)) (pR a2 b2 (pC a1 b1 (pC a0 b0 c))) (pR a3 b3 (pC a2 b2 (pC a1 b1 (pC a0 b0 c)))) (pR a4 b4 (pC a3 b3 (pC a2 b2 (pC a1 b1 (pC a0 b0 c)))))
      (pR a5 b5 (pC a4 b4 (pC a3 b3 (pC a2 b2 (pC a1 b1 (pC a0 b0 c)))))) (pR a6 b6 (pC a5 b5 (pC a4 b4 (pC a3 b3 (pC a2 b2 (pC a1 b1 (pC a0 b0 c)))))))
      (pR a7 b7 (pC a6 b6 (pC a5 b5 (pC a4 b4 (pC a3 b3 (pC a2 b2 (pC a1 b1 (pC a0 b0 c)))))))), []) := by kernel_rfl
theorem p_spec {x y c : Int} (hx : Dig x) (hy : Dig y) (h : 0 ≤ c ∧ c ≤ 1) : pR x y c + D1 * pC x y c = x + y + c ∧ Dig (pR x y c) ∧ 0 ≤ pC x y c ∧ pC x y c ≤ 1 := by
  unfold Dig at *
  have e : pS x y c = x + y + c := by
    unfold pS
    simp only [D1] at *
    rw [wrap_in (x := x + y) (by omega) (by simp only [BB]; omega), wrap_in (by omega) (by simp only [BB]; omega)]
  unfold pR pC
  rw [e, tmod_dig (by simp only [D1] at *; omega), tdiv_dig (by simp only [D1] at *; omega)]
  simp only [D1] at *
  rw [wrap_in (by omega) (by simp only [BB]; omega)]
  omega
theorem plus_gives (args : List Value) (h : plusP args) : Gives P 76 args.toArray (plusV args) := by
  unfold plusP at h
  split at h
  · rename_i x y c
    obtain ⟨⟨m, rfl⟩, ⟨n, rfl⟩, hc0, hc1⟩ := h
    refine gives_of_run mo (plus_run (g0 m) (g1 m) (g2 m) (g3 m) (g4 m) (g5 m) (g6 m) (g7 m) (g0 n) (g1 n) (g2 n) (g3 n) (g4 n) (g5 n) (g6 n) (g7 n) c) ps_nil ?_
    have p0 := p_spec (g0_dig m) (g0_dig n) ⟨hc0, hc1⟩
    have p1 := p_spec (g1_dig m) (g1_dig n) p0.2.2
    have p2 := p_spec (g2_dig m) (g2_dig n) p1.2.2
    have p3 := p_spec (g3_dig m) (g3_dig n) p2.2.2
    have p4 := p_spec (g4_dig m) (g4_dig n) p3.2.2
    have p5 := p_spec (g5_dig m) (g5_dig n) p4.2.2
    have p6 := p_spec (g6_dig m) (g6_dig n) p5.2.2
    have p7 := p_spec (g7_dig m) (g7_dig n) p6.2.2
    simp only [plusV, dn_Dg]
    refine Dg_of p0.2.1 p1.2.1 p2.2.1 p3.2.1 p4.2.1 p5.2.1 p6.2.1 p7.2.1 ?_
    have s := g_sum m
    have t := g_sum n
    have hm := bm_mod m
    have hn := bm_mod n
    have e0 := p0.1
    have e1 := p1.1
    have e2 := p2.1
    have e3 := p3.1
    have e4 := p4.1
    have e5 := p5.1
    have e6 := p6.1
    have e7 := p7.1
    have z := p7.2.2
    clear p0 p1 p2 p3 p4 p5 p6 p7
    simp only [MM, D1, D2, D3, D4, D5, D6, D7] at *
    omega
  · exact h.elim
noncomputable def plus : Ctr P := ⟨76, plusP, plusV, plus_gives⟩
end Go.Rd
/-
  Contracts of the document's answer for wide numbers (gyreref02), second part: printed by refB.py.
-/
namespace Go.Rd
open Go Go.RowKit Go.Sx Go.Nm Go.Wd Go.Proofs
noncomputable def F1 : Env P := ⟨[digits, wide, low, not, plus], [], 10, []⟩
theorem isD (n : Int) : IsD (Dg n) := ⟨n, rfl⟩
theorem isD_0 : IsD (.agg #[.int .u64 0, .int .u64 0, .int .u64 0, .int .u64 0, .int .u64 0, .int .u64 0, .int .u64 0, .int .u64 0]) := ⟨0, by kernel_rfl⟩
theorem dn_0 : dn (.agg #[.int .u64 0, .int .u64 0, .int .u64 0, .int .u64 0, .int .u64 0, .int .u64 0, .int .u64 0, .int .u64 0]) = 0 := by kernel_rfl
theorem dW (n : Int) : W (bm n) = W n := W_congr (bm_mod n)
theorem neg_W (a : Int) : W (bm (bm (-1 - bm (bm a)) + 0 + 1)) = W (-bm a) := by
  rw [bm_in (bm_range a), Int.add_zero, dW]
  refine W_congr ?_
  have := bm_mod (-1 - bm a)
  simp only [MM] at *
  omega
theorem neg_over1 {x : Int} (hx : InR x) (h : decide (x < 0) = true) : decide (bm (-x) < 0) = !inRB (-x) := by
  have hm := bm_mod (-x)
  have hr := bm_range (-x)
  have h := of_decide_eq_true h
  unfold InR at *
  unfold inRB
  rw [Bool.eq_iff_iff]
  simp only [decide_eq_true_iff, Bool.not_eq_true', Bool.and_eq_false_iff, decide_eq_false_iff_not]
  simp only [MM, HH] at *
  omega
theorem neg_over2 {x : Int} (hx : InR x) (h : decide (x < 0) = false) : false = !inRB (-x) := by
  have h := of_decide_eq_false h
  have : InR (-x) := by unfold InR at *; simp only [HH] at *; omega
  rw [inRB_of this]; rfl
theorem neg_run0 (a : Int) : runF P F1 1 56 [W a] (.b true :: []) =
  some (.tuple #[W (dn (Dg (dn (Dg (-1 - dn (Dg (tI (W a))))) + dn (.agg #[.int .u64 0, .int .u64 0, .int .u64 0, .int .u64 0, .int .u64 0, .int .u64 0, .int .u64 0, .int .u64 0]) + 1))), .bool (decide (tI (W (dn (Dg (dn (Dg (-1 - dn (Dg (tI (W a))))) + dn (.agg #[.int .u64 0, .int .u64 0, .int .u64 0, .int .u64 0, .int .u64 0, .int .u64 0, .int .u64 0, .int .u64 0]) + 1)))) < 0))], [P1 [W a], D1P [Dg (tI (W a))], plusP [Dg (-1 - dn (Dg (tI (W a)))), .agg #[.int .u64 0, .int .u64 0, .int .u64 0, .int .u64 0, .int .u64 0, .int .u64 0, .int .u64 0, .int .u64 0], .int .u64 1], D1P [Dg (dn (Dg (-1 - dn (Dg (tI (W a))))) + dn (.agg #[.int .u64 0, .int .u64 0, .int .u64 0, .int .u64 0, .int .u64 0, .int .u64 0, .int .u64 0, .int .u64 0]) + 1)], P1 [W a], (decide (tI (W a) < 0)) = true, P1 [W (dn (Dg (dn (Dg (-1 - dn (Dg (tI (W a))))) + dn (.agg #[.int .u64 0, .int .u64 0, .int .u64 0, .int .u64 0, .int .u64 0, .int .u64 0, .int .u64 0, .int .u64 0]) + 1)))]]) := by kernel_rfl
theorem neg_run1 (a : Int) : runF P F1 1 56 [W a] (.b false :: []) =
  some (.tuple #[W (dn (Dg (dn (Dg (-1 - dn (Dg (tI (W a))))) + dn (.agg #[.int .u64 0, .int .u64 0, .int .u64 0, .int .u64 0, .int .u64 0, .int .u64 0, .int .u64 0, .int .u64 0]) + 1))), .bool false], [P1 [W a], D1P [Dg (tI (W a))], plusP [Dg (-1 - dn (Dg (tI (W a)))), .agg #[.int .u64 0, .int .u64 0, .int .u64 0, .int .u64 0, .int .u64 0, .int .u64 0, .int .u64 0, .int .u64 0], .int .u64 1], D1P [Dg (dn (Dg (-1 - dn (Dg (tI (W a))))) + dn (.agg #[.int .u64 0, .int .u64 0, .int .u64 0, .int .u64 0, .int .u64 0, .int .u64 0, .int .u64 0, .int .u64 0]) + 1)], P1 [W a], (decide (tI (W a) < 0)) = false]) := by kernel_rfl
theorem neg_gives (args : List Value) (h : P1 args) : Gives P 56 args.toArray (negV args) := by
  unfold P1 at h
  split at h
  · obtain ⟨a, rfl⟩ := h
    cases q1 : (decide (tI (W a) < 0)) with
    | true =>
      refine gives_of_run mo (neg_run0 a) (ps_cons (P1_W _) (ps_cons (isD _) (ps_cons ⟨isD _, isD_0, by decide, by decide⟩ (ps_cons (isD _) (ps_cons (P1_W _) (ps_cons q1 (ps_cons (P1_W _) ps_nil))))))) ?_
      have e : W (dn (Dg (dn (Dg (-1 - dn (Dg (tI (W a))))) + dn (.agg #[.int .u64 0, .int .u64 0, .int .u64 0, .int .u64 0, .int .u64 0, .int .u64 0, .int .u64 0, .int .u64 0]) + 1))) = W (-bm a) := by
        simp only [dn_Dg, dn_0, tI_W]
        exact neg_W a
      simp only [negV, e]
      simp only [tI_W] at *
      congr 1
      rw [neg_over1 (bm_range a) q1]
    | false =>
      refine gives_of_run mo (neg_run1 a) (ps_cons (P1_W _) (ps_cons (isD _) (ps_cons ⟨isD _, isD_0, by decide, by decide⟩ (ps_cons (isD _) (ps_cons (P1_W _) (ps_cons q1 ps_nil)))))) ?_
      have e : W (dn (Dg (dn (Dg (-1 - dn (Dg (tI (W a))))) + dn (.agg #[.int .u64 0, .int .u64 0, .int .u64 0, .int .u64 0, .int .u64 0, .int .u64 0, .int .u64 0, .int .u64 0]) + 1))) = W (-bm a) := by
        simp only [dn_Dg, dn_0, tI_W]
        exact neg_W a
      simp only [negV, e]
      simp only [tI_W] at *
      congr 1
      rw [neg_over2 (bm_range a) q1]
  · exact h.elim
noncomputable def neg : Ctr P := ⟨56, P1, negV, neg_gives⟩
theorem add_W (a b : Int) : W (bm (bm (bm a) + bm (bm b) + 0)) = W (bm a + bm b) := by
  rw [bm_in (bm_range a), bm_in (bm_range b), Int.add_zero, dW]
theorem sub_W' (a b : Int) : W (bm (bm (bm a) + bm (-1 - bm (bm b)) + 1)) = W (bm a - bm b) := by
  rw [bm_in (bm_range a), bm_in (bm_range b), dW]
  exact sub_W a b
theorem add_run0 (a b : Int) : runF P F1 1 57 [W a, W b] (.b true :: []) =
  some (.tuple #[W (dn (Dg (dn (Dg (tI (W a))) + dn (Dg (tI (W b))) + 0))), .bool ((decide (tI (W (dn (Dg (dn (Dg (tI (W a))) + dn (Dg (tI (W b))) + 0)))) < 0)) != (decide (tI (W a) < 0)))], [P1 [W a], P1 [W b], plusP [Dg (tI (W a)), Dg (tI (W b)), .int .u64 0], D1P [Dg (dn (Dg (tI (W a))) + dn (Dg (tI (W b))) + 0)], P1 [W a], P1 [W b], ((decide (tI (W a) < 0)) == (decide (tI (W b) < 0))) = true, P1 [W (dn (Dg (dn (Dg (tI (W a))) + dn (Dg (tI (W b))) + 0)))], P1 [W a]]) := by kernel_rfl
theorem add_run1 (a b : Int) : runF P F1 1 57 [W a, W b] (.b false :: []) =
  some (.tuple #[W (dn (Dg (dn (Dg (tI (W a))) + dn (Dg (tI (W b))) + 0))), .bool false], [P1 [W a], P1 [W b], plusP [Dg (tI (W a)), Dg (tI (W b)), .int .u64 0], D1P [Dg (dn (Dg (tI (W a))) + dn (Dg (tI (W b))) + 0)], P1 [W a], P1 [W b], ((decide (tI (W a) < 0)) == (decide (tI (W b) < 0))) = false]) := by kernel_rfl
theorem add_gives (args : List Value) (h : P2 args) : Gives P 57 args.toArray (addV args) := by
  unfold P2 at h
  split at h
  · obtain ⟨⟨a, rfl⟩, ⟨b, rfl⟩⟩ := h
    cases q1 : ((decide (tI (W a) < 0)) == (decide (tI (W b) < 0))) with
    | true =>
      refine gives_of_run mo (add_run0 a b) (ps_cons (P1_W _) (ps_cons (P1_W _) (ps_cons ⟨isD _, isD _, by decide, by decide⟩ (ps_cons (isD _) (ps_cons (P1_W _) (ps_cons (P1_W _) (ps_cons q1 (ps_cons (P1_W _) (ps_cons (P1_W _) ps_nil))))))))) ?_
      have e : W (dn (Dg (dn (Dg (tI (W a))) + dn (Dg (tI (W b))) + 0))) = W (bm a + bm b) := by
        simp only [dn_Dg, tI_W]
        exact add_W a b
      simp only [addV, e]
      simp only [tI_W] at *
      congr 1
      rw [over_same (bm_range a) (bm_range b) q1]
    | false =>
      refine gives_of_run mo (add_run1 a b) (ps_cons (P1_W _) (ps_cons (P1_W _) (ps_cons ⟨isD _, isD _, by decide, by decide⟩ (ps_cons (isD _) (ps_cons (P1_W _) (ps_cons (P1_W _) (ps_cons q1 ps_nil))))))) ?_
      have e : W (dn (Dg (dn (Dg (tI (W a))) + dn (Dg (tI (W b))) + 0))) = W (bm a + bm b) := by
        simp only [dn_Dg, tI_W]
        exact add_W a b
      simp only [addV, e]
      simp only [tI_W] at *
      congr 1
      rw [over_unlike (bm_range a) (bm_range b) q1]
  · exact h.elim
noncomputable def add : Ctr P := ⟨57, P2, addV, add_gives⟩
theorem sub_run0 (a b : Int) : runF P F1 1 80 [W a, W b] (.b true :: []) =
  some (.tuple #[W (dn (Dg (dn (Dg (tI (W a))) + dn (Dg (-1 - dn (Dg (tI (W b))))) + 1))), .bool ((decide (tI (W (dn (Dg (dn (Dg (tI (W a))) + dn (Dg (-1 - dn (Dg (tI (W b))))) + 1)))) < 0)) != (decide (tI (W a) < 0)))], [P1 [W a], P1 [W b], D1P [Dg (tI (W b))], plusP [Dg (tI (W a)), Dg (-1 - dn (Dg (tI (W b)))), .int .u64 1], D1P [Dg (dn (Dg (tI (W a))) + dn (Dg (-1 - dn (Dg (tI (W b))))) + 1)], P1 [W a], P1 [W b], ((decide (tI (W a) < 0)) != (decide (tI (W b) < 0))) = true, P1 [W (dn (Dg (dn (Dg (tI (W a))) + dn (Dg (-1 - dn (Dg (tI (W b))))) + 1)))], P1 [W a]]) := by kernel_rfl
theorem sub_run1 (a b : Int) : runF P F1 1 80 [W a, W b] (.b false :: []) =
  some (.tuple #[W (dn (Dg (dn (Dg (tI (W a))) + dn (Dg (-1 - dn (Dg (tI (W b))))) + 1))), .bool false], [P1 [W a], P1 [W b], D1P [Dg (tI (W b))], plusP [Dg (tI (W a)), Dg (-1 - dn (Dg (tI (W b)))), .int .u64 1], D1P [Dg (dn (Dg (tI (W a))) + dn (Dg (-1 - dn (Dg (tI (W b))))) + 1)], P1 [W a], P1 [W b], ((decide (tI (W a) < 0)) != (decide (tI (W b) < 0))) = false]) := by kernel_rfl
theorem sub_gives (args : List Value) (h : P2 args) : Gives P 80 args.toArray (subV args) := by
  unfold P2 at h
  split at h
  · obtain ⟨⟨a, rfl⟩, ⟨b, rfl⟩⟩ := h
    cases q1 : ((decide (tI (W a) < 0)) != (decide (tI (W b) < 0))) with
    | true =>
      refine gives_of_run mo (sub_run0 a b) (ps_cons (P1_W _) (ps_cons (P1_W _) (ps_cons (isD _) (ps_cons ⟨isD _, isD _, by decide, by decide⟩ (ps_cons (isD _) (ps_cons (P1_W _) (ps_cons (P1_W _) (ps_cons q1 (ps_cons (P1_W _) (ps_cons (P1_W _) ps_nil)))))))))) ?_
      have e : W (dn (Dg (dn (Dg (tI (W a))) + dn (Dg (-1 - dn (Dg (tI (W b))))) + 1))) = W (bm a - bm b) := by
        simp only [dn_Dg, tI_W]
        exact sub_W' a b
      simp only [subV, e]
      simp only [tI_W] at *
      congr 1
      rw [sub_over (bm_range a) (bm_range b) q1]
    | false =>
      refine gives_of_run mo (sub_run1 a b) (ps_cons (P1_W _) (ps_cons (P1_W _) (ps_cons (isD _) (ps_cons ⟨isD _, isD _, by decide, by decide⟩ (ps_cons (isD _) (ps_cons (P1_W _) (ps_cons (P1_W _) (ps_cons q1 ps_nil)))))))) ?_
      have e : W (dn (Dg (dn (Dg (tI (W a))) + dn (Dg (-1 - dn (Dg (tI (W b))))) + 1))) = W (bm a - bm b) := by
        simp only [dn_Dg, tI_W]
        exact sub_W' a b
      simp only [subV, e]
      simp only [tI_W] at *
      congr 1
      rw [sub_under (bm_range a) (bm_range b) q1]
  · exact h.elim
noncomputable def sub : Ctr P := ⟨80, P2, subV, sub_gives⟩
theorem of_neg {n : Int} (h : I64 n) (q : decide (n < 0) = true) : (.agg #[.int .u64 (IntKind.u64.wrap n), .int .u64 18446744073709551615, .int .u64 18446744073709551615, .int .u64 18446744073709551615] : Value) = W n := by
  have q := of_decide_eq_true q
  unfold I64 at h
  refine W_of ?_ ?_ ?_ ?_ ?_ ?_ ?_ ?_ ?_ <;> first | (rw [wrap_u64]; simp only [BB, B2, B3, MM]; omega) | (simp only [BB]; omega) | omega
theorem of_pos {n : Int} (h : I64 n) (q : decide (n < 0) = false) : (.agg #[.int .u64 (IntKind.u64.wrap n), .int .u64 0, .int .u64 0, .int .u64 0] : Value) = W n := by
  have q := of_decide_eq_false q
  unfold I64 at h
  refine W_of ?_ ?_ ?_ ?_ ?_ ?_ ?_ ?_ ?_ <;> first | (rw [wrap_u64]; simp only [BB, B2, B3, MM]; omega) | (simp only [BB]; omega) | omega
theorem of_run0 (n : Int) : runF P F1 1 33 [.int .i64 n] (.lit :: (.lit :: (.b true :: (.lit :: (.lit :: (.b true :: (.lit :: (.lit :: (.b true :: []))))))))) =
  some (.agg #[.int .u64 (IntKind.u64.wrap n), .int .u64 18446744073709551615, .int .u64 18446744073709551615, .int .u64 18446744073709551615], [(decide (n < 0)) = true, (decide (n < 0)) = true, (decide (n < 0)) = true]) := by kernel_rfl
theorem of_run1 (n : Int) : runF P F1 1 33 [.int .i64 n] (.lit :: (.lit :: (.b false :: []))) =
  some (.agg #[.int .u64 (IntKind.u64.wrap n), .int .u64 0, .int .u64 0, .int .u64 0], [(decide (n < 0)) = false]) := by kernel_rfl
theorem of_gives (args : List Value) (h : ofP args) : Gives P 33 args.toArray (ofV args) := by
  unfold ofP at h
  split at h
  · rename_i n
    cases q1 : (decide (n < 0)) with
    | true =>
      refine gives_of_run mo (of_run0 n) (ps_cons q1 (ps_cons q1 (ps_cons q1 ps_nil))) ?_
      exact of_neg h q1
    | false =>
      refine gives_of_run mo (of_run1 n) (ps_cons q1 ps_nil) ?_
      exact of_pos h q1
  · exact h.elim
noncomputable def of : Ctr P := ⟨33, ofP, ofV, of_gives⟩
noncomputable def F2 : Env P := ⟨[digits, wide, low, not, plus, neg, add, sub, of], [], 10, []⟩
theorem weq_comm (m n : Int) : weq m n = weq n m := by rw [weq_eq, weq_eq, decide_eq_decide]; exact eq_comm
theorem int_run0 (a : Int) : runF P F2 1 36 [W a] (.b true :: []) =
  some (.tuple #[.int .i64 0, .bool false], [ofP [.int .i64 (IntKind.i64.wrap (w0 a))], (!(weq (IntKind.i64.wrap (w0 a)) a)) = true]) := by kernel_rfl
theorem int_run1 (a : Int) : runF P F2 1 36 [W a] (.b false :: []) =
  some (.tuple #[.int .i64 (IntKind.i64.wrap (w0 a)), .bool true], [ofP [.int .i64 (IntKind.i64.wrap (w0 a))], (!(weq (IntKind.i64.wrap (w0 a)) a)) = false]) := by kernel_rfl
theorem int_gives (args : List Value) (h : P1 args) : Gives P 36 args.toArray (intV args) := by
  unfold P1 at h
  split at h
  · obtain ⟨a, rfl⟩ := h
    cases q1 : (!(weq (IntKind.i64.wrap (w0 a)) a)) with
    | true =>
      refine gives_of_run mo (int_run0 a) (ps_cons (wrap_i64_range _) (ps_cons q1 ps_nil)) ?_
      have hw : weq (IntKind.i64.wrap (w0 a)) a = false := by simpa using q1
      simp only [intV, tI_W]
      have hb : i64B (bm a) = false := by
        cases hc : i64B (bm a) with
        | false => rfl
        | true =>
          have := (l64_spec a).1.2 hc
          rw [weq_comm, show IntKind.i64.wrap (w0 a) = l64 a from rfl, this] at hw
          cases hw
      rw [hb]
      rfl
    | false =>
      refine gives_of_run mo (int_run1 a) (ps_cons (wrap_i64_range _) (ps_cons q1 ps_nil)) ?_
      have hw : weq (IntKind.i64.wrap (w0 a)) a = true := by simpa using q1
      simp only [intV, tI_W]
      rw [weq_comm] at hw
      have hb := (l64_spec a).1.1 hw
      rw [hb, ← (l64_spec a).2 hb]
      rfl
  · exact h.elim
noncomputable def int : Ctr P := ⟨36, P1, intV, int_gives⟩
def absI (n : Int) : Int := if n < 0 then -n else n
def sizeV : List Value → Value
  | [x] => Dg (absI (tI x))
  | _ => undef
theorem size_run0 (a : Int) : runF P F2 1 53 [W a] (.b true :: []) =
  some (Dg (tI (W (-tI (W a)))), [P1 [W a], (decide (tI (W a) < 0)) = true, P1 [W a], P1 [W (-tI (W a))]]) := by kernel_rfl
theorem size_run1 (a : Int) : runF P F2 1 53 [W a] (.b false :: []) =
  some (Dg (tI (W a)), [P1 [W a], (decide (tI (W a) < 0)) = false, P1 [W a]]) := by kernel_rfl
theorem size_gives (args : List Value) (h : P1 args) : Gives P 53 args.toArray (sizeV args) := by
  unfold P1 at h
  split at h
  · obtain ⟨a, rfl⟩ := h
    cases q1 : (decide (tI (W a) < 0)) with
    | true =>
      refine gives_of_run mo (size_run0 a) (ps_cons (P1_W _) (ps_cons q1 (ps_cons (P1_W _) (ps_cons (P1_W _) ps_nil)))) ?_
      simp only [sizeV, tI_W] at *
      have q := of_decide_eq_true q1
      unfold absI
      rw [if_pos q]
      exact Dg_congr (bm_mod _)
    | false =>
      refine gives_of_run mo (size_run1 a) (ps_cons (P1_W _) (ps_cons q1 (ps_cons (P1_W _) ps_nil))) ?_
      simp only [sizeV, tI_W] at *
      have q := of_decide_eq_false q1
      unfold absI
      rw [if_neg q]
  · exact h.elim
noncomputable def size : Ctr P := ⟨53, P1, sizeV, size_gives⟩
theorem bm_w (n : Int) : bm n = w0 n + BB * w1 n + B2 * w2 n + B3 * w3 n - (if bm n < 0 then MM else 0) := by
  have e := words_sum n
  have hm := bm_mod n
  have hr := bm_range n
  unfold InR at hr
  simp only [BB, B2, B3, MM, HH] at *
  split <;> omega
theorem cmp_run0 (a b : Int) : runF P F2 1 62 [W a, W b] (.b true :: (.b true :: [])) =
  some (.int .i64 (-1), [P1 [W a], P1 [W b], ((decide (tI (W a) < 0)) != (decide (tI (W b) < 0))) = true, P1 [W a], (decide (tI (W a) < 0)) = true]) := by kernel_rfl
theorem cmp_run1 (a b : Int) : runF P F2 1 62 [W a, W b] (.b false :: (lits 4 (.b true :: []))) =
  some (.int .i64 (-1), [P1 [W a], P1 [W b], ((decide (tI (W a) < 0)) != (decide (tI (W b) < 0))) = false, (decide (w3 a < w3 b)) = true]) := by kernel_rfl
theorem cmp_run2 (a b : Int) : runF P F2 1 62 [W a, W b] (.b false :: (lits 4 (.b false :: (.lit :: (.lit :: (.b true :: [])))))) =
  some (.int .i64 1, [P1 [W a], P1 [W b], ((decide (tI (W a) < 0)) != (decide (tI (W b) < 0))) = false, (decide (w3 a < w3 b)) = false, (decide (w3 a > w3 b)) = true]) := by kernel_rfl
theorem cmp_run3 (a b : Int) : runF P F2 1 62 [W a, W b] (.b false :: (lits 4 (.b false :: (.lit :: (.lit :: (.b false :: (.lit :: (.lit :: (.lit :: (.b true :: [])))))))))) =
  some (.int .i64 (-1), [P1 [W a], P1 [W b], ((decide (tI (W a) < 0)) != (decide (tI (W b) < 0))) = false, (decide (w3 a < w3 b)) = false, (decide (w3 a > w3 b)) = false, (decide (w2 a < w2 b)) = true]) := by kernel_rfl
theorem cmp_run4 (a b : Int) : runF P F2 1 62 [W a, W b] (.b false :: (lits 4 (.b false :: (.lit :: (.lit :: (.b false :: (.lit :: (.lit :: (.lit :: (.b false :: (.lit :: (.lit :: (.b true :: []))))))))))))) =
  some (.int .i64 1, [P1 [W a], P1 [W b], ((decide (tI (W a) < 0)) != (decide (tI (W b) < 0))) = false, (decide (w3 a < w3 b)) = false, (decide (w3 a > w3 b)) = false, (decide (w2 a < w2 b)) = false, (decide (w2 a > w2 b)) = true]) := by kernel_rfl
theorem cmp_run5 (a b : Int) : runF P F2 1 62 [W a, W b] (.b false :: (lits 4 (.b false :: (.lit :: (.lit :: (.b false :: (.lit :: (.lit :: (.lit :: (.b false :: (.lit :: (.lit :: (.b false :: (.lit :: (.lit :: (.lit :: (.b true :: []))))))))))))))))) =
  some (.int .i64 (-1), [P1 [W a], P1 [W b], ((decide (tI (W a) < 0)) != (decide (tI (W b) < 0))) = false, (decide (w3 a < w3 b)) = false, (decide (w3 a > w3 b)) = false, (decide (w2 a < w2 b)) = false, (decide (w2 a > w2 b)) = false, (decide (w1 a < w1 b)) = true]) := by kernel_rfl
theorem cmp_run6 (a b : Int) : runF P F2 1 62 [W a, W b] (.b false :: (lits 4 (.b false :: (.lit :: (.lit :: (.b false :: (.lit :: (.lit :: (.lit :: (.b false :: (.lit :: (.lit :: (.b false :: (.lit :: (.lit :: (.lit :: (.b false :: (.lit :: (.lit :: (.b true :: [])))))))))))))))))))) =
  some (.int .i64 1, [P1 [W a], P1 [W b], ((decide (tI (W a) < 0)) != (decide (tI (W b) < 0))) = false, (decide (w3 a < w3 b)) = false, (decide (w3 a > w3 b)) = false, (decide (w2 a < w2 b)) = false, (decide (w2 a > w2 b)) = false, (decide (w1 a < w1 b)) = false, (decide (w1 a > w1 b)) = true]) := by kernel_rfl
theorem cmp_run7 (a b : Int) : runF P F2 1 62 [W a, W b] (.b false :: (lits 4 (.b false :: (.lit :: (.lit :: (.b false :: (.lit :: (.lit :: (.lit :: (.b false :: (.lit :: (.lit :: (.b false :: (.lit :: (.lit :: (.lit :: (.b false :: (.lit :: (.lit :: (.b false :: (.lit :: (.lit :: (.lit :: (.b true :: [])))))))))))))))))))))))) =
  some (.int .i64 (-1), [P1 [W a], P1 [W b], ((decide (tI (W a) < 0)) != (decide (tI (W b) < 0))) = false, (decide (w3 a < w3 b)) = false, (decide (w3 a > w3 b)) = false, (decide (w2 a < w2 b)) = false, (decide (w2 a > w2 b)) = false, (decide (w1 a < w1 b)) = false, (decide (w1 a > w1 b)) = false, (decide (w0 a < w0 b)) = true]) := by kernel_rfl
theorem cmp_run8 (a b : Int) : runF P F2 1 62 [W a, W b] (.b false :: (lits 4 (.b false :: (.lit :: (.lit :: (.b false :: (.lit :: (.lit :: (.lit :: (.b false :: (.lit :: (.lit :: (.b false :: (.lit :: (.lit :: (.lit :: (.b false :: (.lit :: (.lit :: (.b false :: (.lit :: (.lit :: (.lit :: (.b false :: (.lit :: (.lit :: (.b true :: []))))))))))))))))))))))))))) =
  some (.int .i64 1, [P1 [W a], P1 [W b], ((decide (tI (W a) < 0)) != (decide (tI (W b) < 0))) = false, (decide (w3 a < w3 b)) = false, (decide (w3 a > w3 b)) = false, (decide (w2 a < w2 b)) = false, (decide (w2 a > w2 b)) = false, (decide (w1 a < w1 b)) = false, (decide (w1 a > w1 b)) = false, (decide (w0 a < w0 b)) = false, (decide (w0 a > w0 b)) = true]) := by kernel_rfl
theorem cmp_run9 (a b : Int) : runF P F2 1 62 [W a, W b] (.b false :: (lits 4 (.b false :: (.lit :: (.lit :: (.b false :: (.lit :: (.lit :: (.lit :: (.b false :: (.lit :: (.lit :: (.b false :: (.lit :: (.lit :: (.lit :: (.b false :: (.lit :: (.lit :: (.b false :: (.lit :: (.lit :: (.lit :: (.b false :: (.lit :: (.lit :: (.b false :: []))))))))))))))))))))))))))) =
  some (.int .i64 0, [P1 [W a], P1 [W b], ((decide (tI (W a) < 0)) != (decide (tI (W b) < 0))) = false, (decide (w3 a < w3 b)) = false, (decide (w3 a > w3 b)) = false, (decide (w2 a < w2 b)) = false, (decide (w2 a > w2 b)) = false, (decide (w1 a < w1 b)) = false, (decide (w1 a > w1 b)) = false, (decide (w0 a < w0 b)) = false, (decide (w0 a > w0 b)) = false]) := by kernel_rfl
theorem cmp_run10 (a b : Int) : runF P F2 1 62 [W a, W b] (.b true :: (.b false :: [])) =
  some (.int .i64 1, [P1 [W a], P1 [W b], ((decide (tI (W a) < 0)) != (decide (tI (W b) < 0))) = true, P1 [W a], (decide (tI (W a) < 0)) = false]) := by kernel_rfl
theorem cmp_gives (args : List Value) (h : P2 args) : Gives P 62 args.toArray (cmpV args) := by
  unfold P2 at h
  split at h
  · obtain ⟨⟨a, rfl⟩, ⟨b, rfl⟩⟩ := h
    cases q1 : ((decide (tI (W a) < 0)) != (decide (tI (W b) < 0))) with
    | true =>
      cases q2 : (decide (tI (W a) < 0)) with
      | true =>
        refine gives_of_run mo (cmp_run0 a b) (ps_cons (P1_W _) (ps_cons (P1_W _) (ps_cons q1 (ps_cons (P1_W _) (ps_cons q2 ps_nil))))) ?_
        simp only [cmpV]
        simp only [tI_W] at *
        have x := bm_w a
        have y := bm_w b
        have a0 := w0_range a
        have a1 := w1_range a
        have a2 := w2_range a
        have a3 := w3_range a
        have b0 := w0_range b
        have b1 := w1_range b
        have b2 := w2_range b
        have b3 := w3_range b
        (try simp only [bne_iff_ne, ne_eq] at *)
        (try simp only [bne_eq_false_iff_eq] at *)
        (try simp only [decide_eq_decide] at *)
        (try simp only [decide_eq_true_iff] at *)
        (try simp only [decide_eq_false_iff_not] at *)
        unfold cmp3
        simp only [BB, B2, B3, MM] at *
        congr 1
        omega
      | false =>
        refine gives_of_run mo (cmp_run10 a b) (ps_cons (P1_W _) (ps_cons (P1_W _) (ps_cons q1 (ps_cons (P1_W _) (ps_cons q2 ps_nil))))) ?_
        simp only [cmpV]
        simp only [tI_W] at *
        have x := bm_w a
        have y := bm_w b
        have a0 := w0_range a
        have a1 := w1_range a
        have a2 := w2_range a
        have a3 := w3_range a
        have b0 := w0_range b
        have b1 := w1_range b
        have b2 := w2_range b
        have b3 := w3_range b
        (try simp only [bne_iff_ne, ne_eq] at *)
        (try simp only [bne_eq_false_iff_eq] at *)
        (try simp only [decide_eq_decide] at *)
        (try simp only [decide_eq_true_iff] at *)
        (try simp only [decide_eq_false_iff_not] at *)
        unfold cmp3
        simp only [BB, B2, B3, MM] at *
        congr 1
        omega
    | false =>
      cases q3 : (decide (w3 a < w3 b)) with
      | true =>
        refine gives_of_run mo (cmp_run1 a b) (ps_cons (P1_W _) (ps_cons (P1_W _) (ps_cons q1 (ps_cons q3 ps_nil)))) ?_
        simp only [cmpV]
        simp only [tI_W] at *
        have x := bm_w a
        have y := bm_w b
        have a0 := w0_range a
        have a1 := w1_range a
        have a2 := w2_range a
        have a3 := w3_range a
        have b0 := w0_range b
        have b1 := w1_range b
        have b2 := w2_range b
        have b3 := w3_range b
        (try simp only [bne_iff_ne, ne_eq] at *)
        (try simp only [bne_eq_false_iff_eq] at *)
        (try simp only [decide_eq_decide] at *)
        (try simp only [decide_eq_true_iff] at *)
        (try simp only [decide_eq_false_iff_not] at *)
        unfold cmp3
        simp only [BB, B2, B3, MM] at *
        congr 1
        omega
      | false =>
        cases q4 : (decide (w3 a > w3 b)) with
        | true =>
          refine gives_of_run mo (cmp_run2 a b) (ps_cons (P1_W _) (ps_cons (P1_W _) (ps_cons q1 (ps_cons q3 (ps_cons q4 ps_nil))))) ?_
          simp only [cmpV]
          simp only [tI_W] at *
          have x := bm_w a
          have y := bm_w b
          have a0 := w0_range a
          have a1 := w1_range a
          have a2 := w2_range a
          have a3 := w3_range a
          have b0 := w0_range b
          have b1 := w1_range b
          have b2 := w2_range b
          have b3 := w3_range b
          (try simp only [bne_iff_ne, ne_eq] at *)
          (try simp only [bne_eq_false_iff_eq] at *)
          (try simp only [decide_eq_decide] at *)
          (try simp only [decide_eq_true_iff] at *)
          (try simp only [decide_eq_false_iff_not] at *)
          unfold cmp3
          simp only [BB, B2, B3, MM] at *
          congr 1
          omega
        | false =>
          cases q5 : (decide (w2 a < w2 b)) with
          | true =>
            refine gives_of_run mo (cmp_run3 a b) (ps_cons (P1_W _) (ps_cons (P1_W _) (ps_cons q1 (ps_cons q3 (ps_cons q4 (ps_cons q5 ps_nil)))))) ?_
            simp only [cmpV]
            simp only [tI_W] at *
            have x := bm_w a
            have y := bm_w b
            have a0 := w0_range a
            have a1 := w1_range a
            have a2 := w2_range a
            have a3 := w3_range a
            have b0 := w0_range b
            have b1 := w1_range b
            have b2 := w2_range b
            have b3 := w3_range b
            (try simp only [bne_iff_ne, ne_eq] at *)
            (try simp only [bne_eq_false_iff_eq] at *)
            (try simp only [decide_eq_decide] at *)
            (try simp only [decide_eq_true_iff] at *)
            (try simp only [decide_eq_false_iff_not] at *)
            unfold cmp3
            simp only [BB, B2, B3, MM] at *
            congr 1
            omega
          | false =>
            cases q6 : (decide (w2 a > w2 b)) with
            | true =>
              refine gives_of_run mo (cmp_run4 a b) (ps_cons (P1_W _) (ps_cons (P1_W _) (ps_cons q1 (ps_cons q3 (ps_cons q4 (ps_cons q5 (ps_cons q6 ps_nil))))))) ?_
              simp only [cmpV]
              simp only [tI_W] at *
              have x := bm_w a
              have y := bm_w b
              have a0 := w0_range a
              have a1 := w1_range a
              have a2 := w2_range a
              have a3 := w3_range a
              have b0 := w0_range b
              have b1 := w1_range b
              have b2 := w2_range b
              have b3 := w3_range b
              (try simp only [bne_iff_ne, ne_eq] at *)
              (try simp only [bne_eq_false_iff_eq] at *)
              (try simp only [decide_eq_decide] at *)
              (try simp only [decide_eq_true_iff] at *)
              (try simp only [decide_eq_false_iff_not] at *)
              unfold cmp3
              simp only [BB, B2, B3, MM] at *
              congr 1
              omega
            | false =>
              cases q7 : (decide (w1 a < w1 b)) with
              | true =>
                refine gives_of_run mo (cmp_run5 a b) (ps_cons (P1_W _) (ps_cons (P1_W _) (ps_cons q1 (ps_cons q3 (ps_cons q4 (ps_cons q5 (ps_cons q6 (ps_cons q7 ps_nil)))))))) ?_
                simp only [cmpV]
                simp only [tI_W] at *
                have x := bm_w a
                have y := bm_w b
                have a0 := w0_range a
                have a1 := w1_range a
                have a2 := w2_range a
                have a3 := w3_range a
                have b0 := w0_range b
                have b1 := w1_range b
                have b2 := w2_range b
                have b3 := w3_range b
                (try simp only [bne_iff_ne, ne_eq] at *)
                (try simp only [bne_eq_false_iff_eq] at *)
                (try simp only [decide_eq_decide] at *)
                (try simp only [decide_eq_true_iff] at *)
                (try simp only [decide_eq_false_iff_not] at *)
                unfold cmp3
                simp only [BB, B2, B3, MM] at *
                congr 1
                omega
              | false =>
                cases q8 : (decide (w1 a > w1 b)) with
                | true =>
                  refine gives_of_run mo (cmp_run6 a b) (ps_cons (P1_W _) (ps_cons (P1_W _) (ps_cons q1 (ps_cons q3 (ps_cons q4 (ps_cons q5 (ps_cons q6 (ps_cons q7 (ps_cons q8 ps_nil))))))))) ?_
                  simp only [cmpV]
                  simp only [tI_W] at *
                  have x := bm_w a
                  have y := bm_w b
                  have a0 := w0_range a
                  have a1 := w1_range a
                  have a2 := w2_range a
                  have a3 := w3_range a
                  have b0 := w0_range b
                  have b1 := w1_range b
                  have b2 := w2_range b
                  have b3 := w3_range b
                  (try simp only [bne_iff_ne, ne_eq] at *)
                  (try simp only [bne_eq_false_iff_eq] at *)
                  (try simp only [decide_eq_decide] at *)
                  (try simp only [decide_eq_true_iff] at *)
                  (try simp only [decide_eq_false_iff_not] at *)
                  unfold cmp3
                  simp only [BB, B2, B3, MM] at *
                  congr 1
                  omega
                | false =>
                  cases q9 : (decide (w0 a < w0 b)) with
                  | true =>
                    refine gives_of_run mo (cmp_run7 a b) (ps_cons (P1_W _) (ps_cons (P1_W _) (ps_cons q1 (ps_cons q3 (ps_cons q4 (ps_cons q5 (ps_cons q6 (ps_cons q7 (ps_cons q8 (ps_cons q9 ps_nil)))))))))) ?_
                    simp only [cmpV]
                    simp only [tI_W] at *
                    have x := bm_w a
                    have y := bm_w b
                    have a0 := w0_range a
                    have a1 := w1_range a
                    have a2 := w2_range a
                    have a3 := w3_range a
                    have b0 := w0_range b
                    have b1 := w1_range b
                    have b2 := w2_range b
                    have b3 := w3_range b
                    (try simp only [bne_iff_ne, ne_eq] at *)
                    (try simp only [bne_eq_false_iff_eq] at *)
                    (try simp only [decide_eq_decide] at *)
                    (try simp only [decide_eq_true_iff] at *)
                    (try simp only [decide_eq_false_iff_not] at *)
                    unfold cmp3
                    simp only [BB, B2, B3, MM] at *
                    congr 1
                    omega
                  | false =>
                    cases q10 : (decide (w0 a > w0 b)) with
                    | true =>
                      refine gives_of_run mo (cmp_run8 a b) (ps_cons (P1_W _) (ps_cons (P1_W _) (ps_cons q1 (ps_cons q3 (ps_cons q4 (ps_cons q5 (ps_cons q6 (ps_cons q7 (ps_cons q8 (ps_cons q9 (ps_cons q10 ps_nil))))))))))) ?_
                      simp only [cmpV]
                      simp only [tI_W] at *
                      have x := bm_w a
                      have y := bm_w b
                      have a0 := w0_range a
                      have a1 := w1_range a
                      have a2 := w2_range a
                      have a3 := w3_range a
                      have b0 := w0_range b
                      have b1 := w1_range b
                      have b2 := w2_range b
                      have b3 := w3_range b
                      (try simp only [bne_iff_ne, ne_eq] at *)
                      (try simp only [bne_eq_false_iff_eq] at *)
                      (try simp only [decide_eq_decide] at *)
                      (try simp only [decide_eq_true_iff] at *)
                      (try simp only [decide_eq_false_iff_not] at *)
                      unfold cmp3
                      simp only [BB, B2, B3, MM] at *
                      congr 1
                      omega
                    | false =>
                      refine gives_of_run mo (cmp_run9 a b) (ps_cons (P1_W _) (ps_cons (P1_W _) (ps_cons q1 (ps_cons q3 (ps_cons q4 (ps_cons q5 (ps_cons q6 (ps_cons q7 (ps_cons q8 (ps_cons q9 (ps_cons q10 ps_nil))))))))))) ?_
                      simp only [cmpV]
                      simp only [tI_W] at *
                      have x := bm_w a
                      have y := bm_w b
                      have a0 := w0_range a
                      have a1 := w1_range a
                      have a2 := w2_range a
                      have a3 := w3_range a
                      have b0 := w0_range b
                      have b1 := w1_range b
                      have b2 := w2_range b
                      have b3 := w3_range b
                      (try simp only [bne_iff_ne, ne_eq] at *)
                      (try simp only [bne_eq_false_iff_eq] at *)
                      (try simp only [decide_eq_decide] at *)
                      (try simp only [decide_eq_true_iff] at *)
                      (try simp only [decide_eq_false_iff_not] at *)
                      unfold cmp3
                      simp only [BB, B2, B3, MM] at *
                      congr 1
                      omega
  · exact h.elim
noncomputable def cmp : Ctr P := ⟨62, P2, cmpV, cmp_gives⟩
noncomputable def F3 : Env P := ⟨[digits, wide, low, not, plus, neg, add, sub, of, int, size, cmp], [], 10, []⟩
theorem sign_run0 (a : Int) : runF P F3 1 60 [W a] [] =
  some (.int .i64 (cmp3 (tI (W a)) (tI (W 0))), [P2 [W a, W 0]]) := by kernel_rfl
theorem sign_gives (args : List Value) (h : P1 args) : Gives P 60 args.toArray (signV args) := by
  unfold P1 at h
  split at h
  · obtain ⟨a, rfl⟩ := h
    refine gives_of_run mo (sign_run0 a) (ps_cons (P2_W _ _) ps_nil) ?_
    simp only [signV, tI_W0]
  · exact h.elim
noncomputable def sign : Ctr P := ⟨60, P1, signV, sign_gives⟩
end Go.Rd
/-
  Contracts of the document's answer for wide numbers (gyreref02), third part: times.
-/
namespace Go.Rd
open Go Go.RowKit Go.Sx Go.Nm Go.Wd Go.Proofs
def val : List Int → Int
  | [] => 0
  | d :: r => d + D1 * val r
def allDig : List Int → Prop
  | [] => True
  | d :: r => Dig d ∧ allDig r
theorem val_nonneg : ∀ {l : List Int}, allDig l → 0 ≤ val l
  | [], _ => Int.le_refl _
  | d :: r, h => by
    have := val_nonneg h.2
    have hd := h.1.1
    simp only [val, D1]
    omega
theorem val_append : ∀ (p s : List Int), val (p ++ s) = val p + D1 ^ p.length * val s
  | [], s => by simp [val]
  | d :: r, s => by
    simp only [List.cons_append, val, val_append r s, List.length_cons, Int.pow_succ]
    grind
theorem val_lt : ∀ {l : List Int}, allDig l → val l < D1 ^ l.length
  | [], _ => by simp [val]
  | d :: r, h => by
    have := val_lt h.2
    have hd := h.1.2
    simp only [val, List.length_cons, Int.pow_succ]
    have : val r + 1 ≤ D1 ^ r.length := by omega
    have : D1 * (val r + 1) ≤ D1 * D1 ^ r.length := Int.mul_le_mul_of_nonneg_left this (by decide)
    have e : D1 ^ r.length * D1 = D1 * D1 ^ r.length := Int.mul_comm ..
    rw [e]
    have e2 : D1 * (val r + 1) = D1 * val r + D1 := by grind
    rw [e2] at this
    omega
theorem val_inj : ∀ {l s : List Int}, allDig l → allDig s → l.length = s.length → val l = val s → l = s
  | [], [], _, _, _, _ => rfl
  | d :: r, e :: t, hl, hs, hn, hv => by
    simp only [val] at hv
    have h1 := hl.1
    have h2 := hs.1
    unfold Dig at h1 h2
    simp only [D1] at *
    have hd : d = e := by omega
    have hr : val r = val t := by omega
    rw [hd, val_inj hl.2 hs.2 (by simpa using hn) hr]
  | [], _ :: _, _, _, h, _ => by simp at h
  | _ :: _, [], _, _, h, _ => by simp at h
theorem allDig_append {p s : List Int} : allDig (p ++ s) ↔ allDig p ∧ allDig s := by
  induction p with
  | nil => simp [allDig]
  | cons d r ih => simp only [List.cons_append, allDig, ih, and_assoc]
theorem allDig_take : ∀ {l : List Int} (i : Nat), allDig l → allDig (l.take i)
  | _, 0, _ => by simp [allDig]
  | [], _ + 1, _ => by simp [allDig]
  | d :: r, i + 1, h => ⟨h.1, allDig_take i h.2⟩
def rS (o a b c : Int) : Int := IntKind.u64.wrap (IntKind.u64.wrap (o + IntKind.u64.wrap (a * b)) + c)
def rR (o a b c : Int) : Int := (rS o a b c).tmod 4294967296
def rC (o a b c : Int) : Int := IntKind.u64.wrap ((rS o a b c).tdiv 4294967296)
def row (a : Int) : List Int → List Int → Int → List Int
  | o :: os, b :: bs, c => rR o a b c :: row a os bs (rC o a b c)
  | _, _, c => [c]
theorem r_spec {o a b c : Int} (ho : Dig o) (ha : Dig a) (hb : Dig b) (hc : Dig c) : rR o a b c + D1 * rC o a b c = o + a * b + c ∧ Dig (rR o a b c) ∧ Dig (rC o a b c) := by
  have h0 : 0 ≤ a * b := Int.mul_nonneg ha.1 hb.1
  have h1 : a * b ≤ 4294967295 * 4294967295 := by
    unfold Dig at ha hb
    simp only [D1] at *
    exact Int.mul_le_mul (by omega) (by omega) hb.1 (by decide)
  unfold Dig at ho hc
  have e : rS o a b c = o + a * b + c := by
    unfold rS
    simp only [D1] at *
    rw [wrap_in (x := a * b) h0 (by simp only [BB]; omega), wrap_in (x := o + a * b) (by omega) (by simp only [BB]; omega), wrap_in (by omega) (by simp only [BB]; omega)]
  unfold rR rC
  unfold Dig
  rw [e, tmod_dig (by simp only [D1] at *; omega), tdiv_dig (by simp only [D1] at *; omega)]
  simp only [D1] at *
  rw [wrap_in (by omega) (by simp only [BB]; omega)]
  omega
theorem row_spec {a : Int} (ha : Dig a) : ∀ {os bs : List Int} {c : Int}, os.length = bs.length → allDig os → allDig bs → Dig c →
    val (row a os bs c) = val os + a * val bs + c ∧ allDig (row a os bs c) ∧ (row a os bs c).length = os.length + 1
  | [], [], c, _, _, _, hc => ⟨by simp [row, val], ⟨hc, trivial⟩, rfl⟩
  | o :: os, b :: bs, c, hl, ho, hb, hc => by
    obtain ⟨e1, e2, e3⟩ := r_spec ho.1 ha hb.1 hc
    obtain ⟨i1, i2, i3⟩ := row_spec ha (by simpa using hl) ho.2 hb.2 e3
    refine ⟨?_, ⟨e2, i2⟩, by simp [row, i3]⟩
    simp only [row, val, i1]
    grind
  | [], _ :: _, _, h, _, _, _ => by simp at h
  | _ :: _, [], _, h, _, _, _ => by simp at h
theorem row_at {a : Int} {p w r bs : List Int} {z : Int} (ha : Dig a) (hl : allDig (p ++ (w ++ z :: r))) (hb : allDig bs) (hw : w.length = bs.length) (hlt : val (p ++ (w ++ z :: r)) < D1 ^ (p ++ w).length) :
    val (p ++ (row a w bs 0 ++ r)) = val (p ++ (w ++ z :: r)) + D1 ^ p.length * (a * val bs) ∧ allDig (p ++ (row a w bs 0 ++ r)) := by
  obtain ⟨h1, h2⟩ := allDig_append.1 hl
  obtain ⟨h3, h4⟩ := allDig_append.1 h2
  obtain ⟨e1, e2, e3⟩ := row_spec ha hw h3 hb (c := 0) ⟨Int.le_refl _, by decide⟩
  refine ⟨?_, allDig_append.2 ⟨h1, allDig_append.2 ⟨e2, h4.2⟩⟩⟩
  have hz : z = 0 := by
    rw [← List.append_assoc, val_append] at hlt
    have h5 := val_nonneg (allDig_append.2 ⟨h1, h3⟩)
    have h6 := val_nonneg h4
    have hpos : (0 : Int) < D1 ^ (p ++ w).length := Int.pow_pos (by decide)
    have h7 : val (z :: r) = 0 := by
      by_cases h : 0 < val (z :: r)
      · exfalso
        have : D1 ^ (p ++ w).length * 1 ≤ D1 ^ (p ++ w).length * val (z :: r) := Int.mul_le_mul_of_nonneg_left (by omega) (Int.le_of_lt hpos)
        omega
      · omega
    simp only [val] at h7
    have := val_nonneg h4.2
    have := h4.1.1
    simp only [D1] at *
    omega
  subst hz
  rw [val_append, val_append, val_append, val_append, e1, e3]
  simp only [val, Int.pow_succ]
  grind
def aggL (l : List Int) : Value := .agg (l.map fun x => .int .u64 x).toArray
def T16 (n : Int) : Value := aggL [g0 n, g1 n, g2 n, g3 n, g4 n, g5 n, g6 n, g7 n, g0 (n / MM), g1 (n / MM), g2 (n / MM), g3 (n / MM), g4 (n / MM), g5 (n / MM), g6 (n / MM), g7 (n / MM)]
def l8 (n : Int) : List Int := [g0 n, g1 n, g2 n, g3 n, g4 n, g5 n, g6 n, g7 n]
theorem l8_dig (n : Int) : allDig (l8 n) := ⟨g0_dig n, g1_dig n, g2_dig n, g3_dig n, g4_dig n, g5_dig n, g6_dig n, g7_dig n, trivial⟩
theorem l8_val (n : Int) : val (l8 n) = n % MM := by
  rw [← g_sum]
  simp only [l8, val, D1, D2, D3, D4, D5, D6, D7]
  omega
def timesP : List Value → Prop
  | [x, y] => IsD x ∧ IsD y
  | _ => False
def timesV : List Value → Value
  | [x, y] => T16 ((dn x % MM) * (dn y % MM))
  | _ => undef
noncomputable def tBody : Code := bodyOf (innerOf P 52 0)
def tSt (xs ys : List Int) (g : Nat × List Int) : St :=
  ⟨[(6, .v (.int .i64 g.1)), (2, .ptr 0 0), (3, .ptr 1 0), (4, .ptr 2 0), (5, .ptr 3 0)], [(0, (.whole (aggL xs), 68)), (1, (.whole (aggL ys), 68)), (2, (.whole (aggL [0, 0, 0, 0, 0, 0, 0, 0, 0, 0, 0, 0, 0, 0, 0, 0]), 81)), (3, (.whole (aggL g.2), 81))], [], [3, 2, 1, 0], []⟩
noncomputable def F4 : Env P := ⟨⟨[], []⟩, [], 10, []⟩
def tN0 (a0 a1 a2 a3 a4 a5 a6 a7 b0 b1 b2 b3 b4 b5 b6 b7 o0 o1 o2 o3 o4 o5 o6 o7 _o8 o9 o10 o11 o12 o13 o14 o15 : Int) : St := tSt [a0, a1, a2, a3, a4, a5, a6, a7] [b0, b1, b2, b3, b4, b5, b6, b7] (1, [] ++ (row a0 [o0, o1, o2, o3, o4, o5, o6, o7] [b0, b1, b2, b3, b4, b5, b6, b7] 0 ++ [o9, o10, o11, o12, o13, o14, o15]))
theorem t_step0 (a0 a1 a2 a3 a4 a5 a6 a7 b0 b1 b2 b3 b4 b5 b6 b7 o0 o1 o2 o3 o4 o5 o6 o7 o8 o9 o10 o11 o12 o13 o14 o15 : Int) (m : Nat) :
    stepF P F4 1 50 tBody (tSt [a0, a1, a2, a3, a4, a5, a6, a7] [b0, b1, b2, b3, b4, b5, b6, b7] (0, [o0, o1, o2, o3, o4, o5, o6, o7, o8, o9, o10, o11, o12, o13, o14, o15])) [.lit, .lit, .b false] 1000 (fun _ => some (tN0 a0 a1 a2 a3 a4 a5 a6 a7 b0 b1 b2 b3 b4 b5 b6 b7 o0 o1 o2 o3 o4 o5 o6 o7 o8 o9 o10 o11 o12 o13 o14 o15)) m = some (.normal, m, [(a0 == 0) = false] ++ selfL (tN0 a0 a1 a2 a3 a4 a5 a6 a7 b0 b1 b2 b3 b4 b5 b6 b7 o0 o1 o2 o3 o4 o5 o6 o7 o8 o9 o10 o11 o12 o13 o14 o15) [3]) := by kernel_rfl
theorem t_skip0 (a0 a1 a2 a3 a4 a5 a6 a7 b0 b1 b2 b3 b4 b5 b6 b7 o0 o1 o2 o3 o4 o5 o6 o7 o8 o9 o10 o11 o12 o13 o14 o15 : Int) (m : Nat) :
    stepF P F4 1 50 tBody (tSt [a0, a1, a2, a3, a4, a5, a6, a7] [b0, b1, b2, b3, b4, b5, b6, b7] (0, [o0, o1, o2, o3, o4, o5, o6, o7, o8, o9, o10, o11, o12, o13, o14, o15])) [.lit, .lit, .b true] 1000 (fun _ => some (tSt [a0, a1, a2, a3, a4, a5, a6, a7] [b0, b1, b2, b3, b4, b5, b6, b7] (1, [o0, o1, o2, o3, o4, o5, o6, o7, o8, o9, o10, o11, o12, o13, o14, o15]))) m = some (.normal, m, [(a0 == 0) = true] ++ selfL (tSt [a0, a1, a2, a3, a4, a5, a6, a7] [b0, b1, b2, b3, b4, b5, b6, b7] (1, [o0, o1, o2, o3, o4, o5, o6, o7, o8, o9, o10, o11, o12, o13, o14, o15])) []) := by kernel_rfl
def tN1 (a0 a1 a2 a3 a4 a5 a6 a7 b0 b1 b2 b3 b4 b5 b6 b7 o0 o1 o2 o3 o4 o5 o6 o7 o8 _o9 o10 o11 o12 o13 o14 o15 : Int) : St := tSt [a0, a1, a2, a3, a4, a5, a6, a7] [b0, b1, b2, b3, b4, b5, b6, b7] (2, [o0] ++ (row a1 [o1, o2, o3, o4, o5, o6, o7, o8] [b0, b1, b2, b3, b4, b5, b6, b7] 0 ++ [o10, o11, o12, o13, o14, o15]))
theorem t_step1 (a0 a1 a2 a3 a4 a5 a6 a7 b0 b1 b2 b3 b4 b5 b6 b7 o0 o1 o2 o3 o4 o5 o6 o7 o8 o9 o10 o11 o12 o13 o14 o15 : Int) (m : Nat) :
    stepF P F4 1 50 tBody (tSt [a0, a1, a2, a3, a4, a5, a6, a7] [b0, b1, b2, b3, b4, b5, b6, b7] (1, [o0, o1, o2, o3, o4, o5, o6, o7, o8, o9, o10, o11, o12, o13, o14, o15])) [.lit, .lit, .b false] 1000 (fun _ => some (tN1 a0 a1 a2 a3 a4 a5 a6 a7 b0 b1 b2 b3 b4 b5 b6 b7 o0 o1 o2 o3 o4 o5 o6 o7 o8 o9 o10 o11 o12 o13 o14 o15)) m = some (.normal, m, [(a1 == 0) = false] ++ selfL (tN1 a0 a1 a2 a3 a4 a5 a6 a7 b0 b1 b2 b3 b4 b5 b6 b7 o0 o1 o2 o3 o4 o5 o6 o7 o8 o9 o10 o11 o12 o13 o14 o15) [3]) := by kernel_rfl
theorem t_skip1 (a0 a1 a2 a3 a4 a5 a6 a7 b0 b1 b2 b3 b4 b5 b6 b7 o0 o1 o2 o3 o4 o5 o6 o7 o8 o9 o10 o11 o12 o13 o14 o15 : Int) (m : Nat) :
    stepF P F4 1 50 tBody (tSt [a0, a1, a2, a3, a4, a5, a6, a7] [b0, b1, b2, b3, b4, b5, b6, b7] (1, [o0, o1, o2, o3, o4, o5, o6, o7, o8, o9, o10, o11, o12, o13, o14, o15])) [.lit, .lit, .b true] 1000 (fun _ => some (tSt [a0, a1, a2, a3, a4, a5, a6, a7] [b0, b1, b2, b3, b4, b5, b6, b7] (2, [o0, o1, o2, o3, o4, o5, o6, o7, o8, o9, o10, o11, o12, o13, o14, o15]))) m = some (.normal, m, [(a1 == 0) = true] ++ selfL (tSt [a0, a1, a2, a3, a4, a5, a6, a7] [b0, b1, b2, b3, b4, b5, b6, b7] (2, [o0, o1, o2, o3, o4, o5, o6, o7, o8, o9, o10, o11, o12, o13, o14, o15])) []) := by kernel_rfl
def tN2 (a0 a1 a2 a3 a4 a5 a6 a7 b0 b1 b2 b3 b4 b5 b6 b7 o0 o1 o2 o3 o4 o5 o6 o7 o8 o9 _o10 o11 o12 o13 o14 o15 : Int) : St := tSt [a0, a1, a2, a3, a4, a5, a6, a7] [b0, b1, b2, b3, b4, b5, b6, b7] (3, [o0, o1] ++ (row a2 [o2, o3, o4, o5, o6, o7, o8, o9] [b0, b1, b2, b3, b4, b5, b6, b7] 0 ++ [o11, o12, o13, o14, o15]))
theorem t_step2 (a0 a1 a2 a3 a4 a5 a6 a7 b0 b1 b2 b3 b4 b5 b6 b7 o0 o1 o2 o3 o4 o5 o6 o7 o8 o9 o10 o11 o12 o13 o14 o15 : Int) (m : Nat) :
    stepF P F4 1 50 tBody (tSt [a0, a1, a2, a3, a4, a5, a6, a7] [b0, b1, b2, b3, b4, b5, b6, b7] (2, [o0, o1, o2, o3, o4, o5, o6, o7, o8, o9, o10, o11, o12, o13, o14, o15])) [.lit, .lit, .b false] 1000 (fun _ => some (tN2 a0 a1 a2 a3 a4 a5 a6 a7 b0 b1 b2 b3 b4 b5 b6 b7 o0 o1 o2 o3 o4 o5 o6 o7 o8 o9 o10 o11 o12 o13 o14 o15)) m = some (.normal, m, [(a2 == 0) = false] ++ selfL (tN2 a0 a1 a2 a3 a4 a5 a6 a7 b0 b1 b2 b3 b4 b5 b6 b7 o0 o1 o2 o3 o4 o5 o6 o7 o8 o9 o10 o11 o12 o13 o14 o15) [3]) := by kernel_rfl
theorem t_skip2 (a0 a1 a2 a3 a4 a5 a6 a7 b0 b1 b2 b3 b4 b5 b6 b7 o0 o1 o2 o3 o4 o5 o6 o7 o8 o9 o10 o11 o12 o13 o14 o15 : Int) (m : Nat) :
    stepF P F4 1 50 tBody (tSt [a0, a1, a2, a3, a4, a5, a6, a7] [b0, b1, b2, b3, b4, b5, b6, b7] (2, [o0, o1, o2, o3, o4, o5, o6, o7, o8, o9, o10, o11, o12, o13, o14, o15])) [.lit, .lit, .b true] 1000 (fun _ => some (tSt [a0, a1, a2, a3, a4, a5, a6, a7] [b0, b1, b2, b3, b4, b5, b6, b7] (3, [o0, o1, o2, o3, o4, o5, o6, o7, o8, o9, o10, o11, o12, o13, o14, o15]))) m = some (.normal, m, [(a2 == 0) = true] ++ selfL (tSt [a0, a1, a2, a3, a4, a5, a6, a7] [b0, b1, b2, b3, b4, b5, b6, b7] (3, [o0, o1, o2, o3, o4, o5, o6, o7, o8, o9, o10, o11, o12, o13, o14, o15])) []) := by kernel_rfl
def tN3 (a0 a1 a2 a3 a4 a5 a6 a7 b0 b1 b2 b3 b4 b5 b6 b7 o0 o1 o2 o3 o4 o5 o6 o7 o8 o9 o10 _o11 o12 o13 o14 o15 : Int) : St := tSt [a0, a1, a2, a3, a4, a5, a6, a7] [b0, b1, b2, b3, b4, b5, b6, b7] (4, [o0, o1, o2] ++ (row a3 [o3, o4, o5, o6, o7, o8, o9, o10] [b0, b1, b2, b3, b4, b5, b6, b7] 0 ++ [o12, o13, o14, o15]))
theorem t_step3 (a0 a1 a2 a3 a4 a5 a6 a7 b0 b1 b2 b3 b4 b5 b6 b7 o0 o1 o2 o3 o4 o5 o6 o7 o8 o9 o10 o11 o12 o13 o14 o15 : Int) (m : Nat) :
    stepF P F4 1 50 tBody (tSt [a0, a1, a2, a3, a4, a5, a6, a7] [b0, b1, b2, b3, b4, b5, b6, b7] (3, [o0, o1, o2, o3, o4, o5, o6, o7, o8, o9, o10, o11, o12, o13, o14, o15])) [.lit, .lit, .b false] 1000 (fun _ => some (tN3 a0 a1 a2 a3 a4 a5 a6 a7 b0 b1 b2 b3 b4 b5 b6 b7 o0 o1 o2 o3 o4 o5 o6 o7 o8 o9 o10 o11 o12 o13 o14 o15)) m = some (.normal, m, [(a3 == 0) = false] ++ selfL (tN3 a0 a1 a2 a3 a4 a5 a6 a7 b0 b1 b2 b3 b4 b5 b6 b7 o0 o1 o2 o3 o4 o5 o6 o7 o8 o9 o10 o11 o12 o13 o14 o15) [3]) := by kernel_rfl
theorem t_skip3 (a0 a1 a2 a3 a4 a5 a6 a7 b0 b1 b2 b3 b4 b5 b6 b7 o0 o1 o2 o3 o4 o5 o6 o7 o8 o9 o10 o11 o12 o13 o14 o15 : Int) (m : Nat) :
    stepF P F4 1 50 tBody (tSt [a0, a1, a2, a3, a4, a5, a6, a7] [b0, b1, b2, b3, b4, b5, b6, b7] (3, [o0, o1, o2, o3, o4, o5, o6, o7, o8, o9, o10, o11, o12, o13, o14, o15])) [.lit, .lit, .b true] 1000 (fun _ => some (tSt [a0, a1, a2, a3, a4, a5, a6, a7] [b0, b1, b2, b3, b4, b5, b6, b7] (4, [o0, o1, o2, o3, o4, o5, o6, o7, o8, o9, o10, o11, o12, o13, o14, o15]))) m = some (.normal, m, [(a3 == 0) = true] ++ selfL (tSt [a0, a1, a2, a3, a4, a5, a6, a7] [b0, b1, b2, b3, b4, b5, b6, b7] (4, [o0, o1, o2, o3, o4, o5, o6, o7, o8, o9, o10, o11, o12, o13, o14, o15])) []) := by kernel_rfl
def tN4 (a0 a1 a2 a3 a4 a5 a6 a7 b0 b1 b2 b3 b4 b5 b6 b7 o0 o1 o2 o3 o4 o5 o6 o7 o8 o9 o10 o11 _o12 o13 o14 o15 : Int) : St := tSt [a0, a1, a2, a3, a4, a5, a6, a7] [b0, b1, b2, b3, b4, b5, b6, b7] (5, [o0, o1, o2, o3] ++ (row a4 [o4, o5, o6, o7, o8, o9, o10, o11] [b0, b1, b2, b3, b4, b5, b6, b7] 0 ++ [o13, o14, o15]))
theorem t_step4 (a0 a1 a2 a3 a4 a5 a6 a7 b0 b1 b2 b3 b4 b5 b6 b7 o0 o1 o2 o3 o4 o5 o6 o7 o8 o9 o10 o11 o12 o13 o14 o15 : Int) (m : Nat) :
    stepF P F4 1 50 tBody (tSt [a0, a1, a2, a3, a4, a5, a6, a7] [b0, b1, b2, b3, b4, b5, b6, b7] (4, [o0, o1, o2, o3, o4, o5, o6, o7, o8, o9, o10, o11, o12, o13, o14, o15])) [.lit, .lit, .b false] 1000 (fun _ => some (tN4 a0 a1 a2 a3 a4 a5 a6 a7 b0 b1 b2 b3 b4 b5 b6 b7 o0 o1 o2 o3 o4 o5 o6 o7 o8 o9 o10 o11 o12 o13 o14 o15)) m = some (.normal, m, [(a4 == 0) = false] ++ selfL (tN4 a0 a1 a2 a3 a4 a5 a6 a7 b0 b1 b2 b3 b4 b5 b6 b7 o0 o1 o2 o3 o4 o5 o6 o7 o8 o9 o10 o11 o12 o13 o14 o15) [3]) := by kernel_rfl
theorem t_skip4 (a0 a1 a2 a3 a4 a5 a6 a7 b0 b1 b2 b3 b4 b5 b6 b7 o0 o1 o2 o3 o4 o5 o6 o7 o8 o9 o10 o11 o12 o13 o14 o15 : Int) (m : Nat) :
    stepF P F4 1 50 tBody (tSt [a0, a1, a2, a3, a4, a5, a6, a7] [b0, b1, b2, b3, b4, b5, b6, b7] (4, [o0, o1, o2, o3, o4, o5, o6, o7, o8, o9, o10, o11, o12, o13, o14, o15])) [.lit, .lit, .b true] 1000 (fun _ => some (tSt [a0, a1, a2, a3, a4, a5, a6, a7] [b0, b1, b2, b3, b4, b5, b6, b7] (5, [o0, o1, o2, o3, o4, o5, o6, o7, o8, o9, o10, o11, o12, o13, o14, o15]))) m = some (.normal, m, [(a4 == 0) = true] ++ selfL (tSt [a0, a1, a2, a3, a4, a5, a6, a7] [b0, b1, b2, b3, b4, b5, b6, b7] (5, [o0, o1, o2, o3, o4, o5, o6, o7, o8, o9, o10, o11, o12, o13, o14, o15])) []) := by kernel_rfl
def tN5 (a0 a1 a2 a3 a4 a5 a6 a7 b0 b1 b2 b3 b4 b5 b6 b7 o0 o1 o2 o3 o4 o5 o6 o7 o8 o9 o10 o11 o12 _o13 o14 o15 : Int) : St := tSt [a0, a1, a2, a3, a4, a5, a6, a7] [b0, b1, b2, b3, b4, b5, b6, b7] (6, [o0, o1, o2, o3, o4] ++ (row a5 [o5, o6, o7, o8, o9, o10, o11, o12] [b0, b1, b2, b3, b4, b5, b6, b7] 0 ++ [o14, o15]))
theorem t_step5 (a0 a1 a2 a3 a4 a5 a6 a7 b0 b1 b2 b3 b4 b5 b6 b7 o0 o1 o2 o3 o4 o5 o6 o7 o8 o9 o10 o11 o12 o13 o14 o15 : Int) (m : Nat) :
    stepF P F4 1 50 tBody (tSt [a0, a1, a2, a3, a4, a5, a6, a7] [b0, b1, b2, b3, b4, b5, b6, b7] (5, [o0, o1, o2, o3, o4, o5, o6, o7, o8, o9, o10, o11, o12, o13, o14, o15])) [.lit, .lit, .b false] 1000 (fun _ => some (tN5 a0 a1 a2 a3 a4 a5 a6 a7 b0 b1 b2 b3 b4 b5 b6 b7 o0 o1 o2 o3 o4 o5 o6 o7 o8 o9 o10 o11 o12 o13 o14 o15)) m = some (.normal, m, [(a5 == 0) = false] ++ selfL (tN5 a0 a1 a2 a3 a4 a5 a6 a7 b0 b1 b2 b3 b4 b5 b6 b7 o0 o1 o2 o3 o4 o5 o6 o7 o8 o9 o10 o11 o12 o13 o14 o15) [3]) := by kernel_rfl
theorem t_skip5 (a0 a1 a2 a3 a4 a5 a6 a7 b0 b1 b2 b3 b4 b5 b6 b7 o0 o1 o2 o3 o4 o5 o6 o7 o8 o9 o10 o11 o12 o13 o14 o15 : Int) (m : Nat) :
    stepF P F4 1 50 tBody (tSt [a0, a1, a2, a3, a4, a5, a6, a7] [b0, b1, b2, b3, b4, b5, b6, b7] (5, [o0, o1, o2, o3, o4, o5, o6, o7, o8, o9, o10, o11, o12, o13, o14, o15])) [.lit, .lit, .b true] 1000 (fun _ => some (tSt [a0, a1, a2, a3, a4, a5, a6, a7] [b0, b1, b2, b3, b4, b5, b6, b7] (6, [o0, o1, o2, o3, o4, o5, o6, o7, o8, o9, o10, o11, o12, o13, o14, o15]))) m = some (.normal, m, [(a5 == 0) = true] ++ selfL (tSt [a0, a1, a2, a3, a4, a5, a6, a7] [b0, b1, b2, b3, b4, b5, b6, b7] (6, [o0, o1, o2, o3, o4, o5, o6, o7, o8, o9, o10, o11, o12, o13, o14, o15])) []) := by kernel_rfl
def tN6 (a0 a1 a2 a3 a4 a5 a6 a7 b0 b1 b2 b3 b4 b5 b6 b7 o0 o1 o2 o3 o4 o5 o6 o7 o8 o9 o10 o11 o12 o13 _o14 o15 : Int) : St := tSt [a0, a1, a2, a3, a4, a5, a6, a7] [b0, b1, b2, b3, b4, b5, b6, b7] (7, [o0, o1, o2, o3, o4, o5] ++ (row a6 [o6, o7, o8, o9, o10, o11, o12, o13] [b0, b1, b2, b3, b4, b5, b6, b7] 0 ++ [o15]))
theorem t_step6 (a0 a1 a2 a3 a4 a5 a6 a7 b0 b1 b2 b3 b4 b5 b6 b7 o0 o1 o2 o3 o4 o5 o6 o7 o8 o9 o10 o11 o12 o13 o14 o15 : Int) (m : Nat) :
    stepF P F4 1 50 tBody (tSt [a0, a1, a2, a3, a4, a5, a6, a7] [b0, b1, b2, b3, b4, b5, b6, b7] (6, [o0, o1, o2, o3, o4, o5, o6, o7, o8, o9, o10, o11, o12, o13, o14, o15])) [.lit, .lit, .b false] 1000 (fun _ => some (tN6 a0 a1 a2 a3 a4 a5 a6 a7 b0 b1 b2 b3 b4 b5 b6 b7 o0 o1 o2 o3 o4 o5 o6 o7 o8 o9 o10 o11 o12 o13 o14 o15)) m = some (.normal, m, [(a6 == 0) = false] ++ selfL (tN6 a0 a1 a2 a3 a4 a5 a6 a7 b0 b1 b2 b3 b4 b5 b6 b7 o0 o1 o2 o3 o4 o5 o6 o7 o8 o9 o10 o11 o12 o13 o14 o15) [3]) := by kernel_rfl
theorem t_skip6 (a0 a1 a2 a3 a4 a5 a6 a7 b0 b1 b2 b3 b4 b5 b6 b7 o0 o1 o2 o3 o4 o5 o6 o7 o8 o9 o10 o11 o12 o13 o14 o15 : Int) (m : Nat) :
    stepF P F4 1 50 tBody (tSt [a0, a1, a2, a3, a4, a5, a6, a7] [b0, b1, b2, b3, b4, b5, b6, b7] (6, [o0, o1, o2, o3, o4, o5, o6, o7, o8, o9, o10, o11, o12, o13, o14, o15])) [.lit, .lit, .b true] 1000 (fun _ => some (tSt [a0, a1, a2, a3, a4, a5, a6, a7] [b0, b1, b2, b3, b4, b5, b6, b7] (7, [o0, o1, o2, o3, o4, o5, o6, o7, o8, o9, o10, o11, o12, o13, o14, o15]))) m = some (.normal, m, [(a6 == 0) = true] ++ selfL (tSt [a0, a1, a2, a3, a4, a5, a6, a7] [b0, b1, b2, b3, b4, b5, b6, b7] (7, [o0, o1, o2, o3, o4, o5, o6, o7, o8, o9, o10, o11, o12, o13, o14, o15])) []) := by kernel_rfl
def tN7 (a0 a1 a2 a3 a4 a5 a6 a7 b0 b1 b2 b3 b4 b5 b6 b7 o0 o1 o2 o3 o4 o5 o6 o7 o8 o9 o10 o11 o12 o13 o14 _o15 : Int) : St := tSt [a0, a1, a2, a3, a4, a5, a6, a7] [b0, b1, b2, b3, b4, b5, b6, b7] (8, [o0, o1, o2, o3, o4, o5, o6] ++ (row a7 [o7, o8, o9, o10, o11, o12, o13, o14] [b0, b1, b2, b3, b4, b5, b6, b7] 0 ++ []))
theorem t_step7 (a0 a1 a2 a3 a4 a5 a6 a7 b0 b1 b2 b3 b4 b5 b6 b7 o0 o1 o2 o3 o4 o5 o6 o7 o8 o9 o10 o11 o12 o13 o14 o15 : Int) (m : Nat) :
    stepF P F4 1 50 tBody (tSt [a0, a1, a2, a3, a4, a5, a6, a7] [b0, b1, b2, b3, b4, b5, b6, b7] (7, [o0, o1, o2, o3, o4, o5, o6, o7, o8, o9, o10, o11, o12, o13, o14, o15])) [.lit, .lit, .b false] 1000 (fun _ => some (tN7 a0 a1 a2 a3 a4 a5 a6 a7 b0 b1 b2 b3 b4 b5 b6 b7 o0 o1 o2 o3 o4 o5 o6 o7 o8 o9 o10 o11 o12 o13 o14 o15)) m = some (.normal, m, [(a7 == 0) = false] ++ selfL (tN7 a0 a1 a2 a3 a4 a5 a6 a7 b0 b1 b2 b3 b4 b5 b6 b7 o0 o1 o2 o3 o4 o5 o6 o7 o8 o9 o10 o11 o12 o13 o14 o15) [3]) := by kernel_rfl
theorem t_skip7 (a0 a1 a2 a3 a4 a5 a6 a7 b0 b1 b2 b3 b4 b5 b6 b7 o0 o1 o2 o3 o4 o5 o6 o7 o8 o9 o10 o11 o12 o13 o14 o15 : Int) (m : Nat) :
    stepF P F4 1 50 tBody (tSt [a0, a1, a2, a3, a4, a5, a6, a7] [b0, b1, b2, b3, b4, b5, b6, b7] (7, [o0, o1, o2, o3, o4, o5, o6, o7, o8, o9, o10, o11, o12, o13, o14, o15])) [.lit, .lit, .b true] 1000 (fun _ => some (tSt [a0, a1, a2, a3, a4, a5, a6, a7] [b0, b1, b2, b3, b4, b5, b6, b7] (8, [o0, o1, o2, o3, o4, o5, o6, o7, o8, o9, o10, o11, o12, o13, o14, o15]))) m = some (.normal, m, [(a7 == 0) = true] ++ selfL (tSt [a0, a1, a2, a3, a4, a5, a6, a7] [b0, b1, b2, b3, b4, b5, b6, b7] (8, [o0, o1, o2, o3, o4, o5, o6, o7, o8, o9, o10, o11, o12, o13, o14, o15])) []) := by kernel_rfl
theorem t_exit (a0 a1 a2 a3 a4 a5 a6 a7 b0 b1 b2 b3 b4 b5 b6 b7 o0 o1 o2 o3 o4 o5 o6 o7 o8 o9 o10 o11 o12 o13 o14 o15 : Int) (m : Nat) :
    stepF P F4 1 50 tBody (tSt [a0, a1, a2, a3, a4, a5, a6, a7] [b0, b1, b2, b3, b4, b5, b6, b7] (8, [o0, o1, o2, o3, o4, o5, o6, o7, o8, o9, o10, o11, o12, o13, o14, o15])) [] 1000 (fun _ => some (tSt [a0, a1, a2, a3, a4, a5, a6, a7] [b0, b1, b2, b3, b4, b5, b6, b7] (8, [o0, o1, o2, o3, o4, o5, o6, o7, o8, o9, o10, o11, o12, o13, o14, o15]))) m = some (.exit 0, m, selfL (tSt [a0, a1, a2, a3, a4, a5, a6, a7] [b0, b1, b2, b3, b4, b5, b6, b7] (8, [o0, o1, o2, o3, o4, o5, o6, o7, o8, o9, o10, o11, o12, o13, o14, o15])) []) := by kernel_rfl
def tInv (xs ys : List Int) (g : Nat × List Int) : Prop := g.1 ≤ 8 ∧ g.2.length = 16 ∧ allDig g.2 ∧ val g.2 = val (xs.take g.1) * val ys
theorem mul_lt {x y A B : Int} (hx : 0 ≤ x) (hxA : x < A) (hyB : y < B) (hB : 0 < B) : x * y < A * B := by
  have h1 : x * y ≤ x * B := Int.mul_le_mul_of_nonneg_left (by omega) hx
  have h2 : x * B < A * B := Int.mul_lt_mul_of_pos_right hxA hB
  omega
theorem t_next {xs p w r ys : List Int} {z a : Int} {k : Nat} (hp : p.length = k) (hw : w.length = 8) (hy : ys.length = 8) (hr : r.length + k = 7) (hx : xs.take (k + 1) = xs.take k ++ [a]) (htk : (xs.take k).length = k)
    (hxd : allDig xs) (hyd : allDig ys) (h : tInv xs ys (k, p ++ (w ++ z :: r))) : tInv xs ys (k + 1, p ++ (row a w ys 0 ++ r)) := by
  obtain ⟨h1, h2, h3, h4⟩ := h
  have ha : Dig a := by
    have := allDig_take (k + 1) hxd
    rw [hx] at this
    exact (allDig_append.1 this).2.1
  have hlt : val (p ++ (w ++ z :: r)) < D1 ^ (p ++ w).length := by
    simp only at h4
    rw [h4, List.length_append, hp, hw, Int.pow_add]
    have q1 := val_lt (allDig_take k hxd)
    have q2 := val_lt hyd
    rw [htk] at q1
    rw [hy] at q2
    exact mul_lt (val_nonneg (allDig_take k hxd)) q1 q2 (by decide)
  obtain ⟨e1, e2⟩ := row_at ha h3 hyd (hw.trans hy.symm) hlt
  have hd := row_spec ha (c := 0) (hw.trans hy.symm) (allDig_append.1 (allDig_append.1 h3).2).1 hyd ⟨Int.le_refl _, by decide⟩
  refine ⟨by simp only; omega, ?_, e2, ?_⟩
  · simp only [List.length_append, hd.2.2, hp, hw]
    omega
  · simp only at h4 ⊢
    rw [e1, h4, hx, val_append, htk, hp]
    simp only [val]
    grind
theorem t_same {xs l ys : List Int} {a : Int} {k : Nat} (hk : k < 8) (hx : xs.take (k + 1) = xs.take k ++ [a]) (ha : a = 0) (h : tInv xs ys (k, l)) : tInv xs ys (k + 1, l) := by
  obtain ⟨h1, h2, h3, h4⟩ := h
  refine ⟨by simp only; omega, h2, h3, ?_⟩
  simp only at h4 ⊢
  rw [hx, val_append, ha]
  simp only [val]
  rw [h4]
  grind
def tOut (n : Int) : List Int := l8 n ++ l8 (n / MM)
theorem tOut_of {l : List Int} {n : Int} (hl : allDig l) (hn : l.length = 16) (hv : val l = n) (h0 : 0 ≤ n) (h1 : n < MM * MM) : l = tOut n := by
  refine val_inj hl (allDig_append.2 ⟨l8_dig _, l8_dig _⟩) (by simpa [l8, tOut] using hn) ?_
  rw [tOut, val_append, l8_val, l8_val, hv]
  have e : D1 ^ (l8 n).length = MM := by show D1 ^ 8 = MM; decide
  rw [e]
  simp only [MM] at *
  omega
theorem t_steps (a0 a1 a2 a3 a4 a5 a6 a7 b0 b1 b2 b3 b4 b5 b6 b7 : Int) (hx : allDig [a0, a1, a2, a3, a4, a5, a6, a7]) (hy : allDig [b0, b1, b2, b3, b4, b5, b6, b7]) (g : Nat × List Int) (h : tInv [a0, a1, a2, a3, a4, a5, a6, a7] [b0, b1, b2, b3, b4, b5, b6, b7] g) :
    StepTo P F4 1 50 tBody (tSt [a0, a1, a2, a3, a4, a5, a6, a7] [b0, b1, b2, b3, b4, b5, b6, b7] g) fun o S1 => (o = .normal ∧ ∃ g', tInv [a0, a1, a2, a3, a4, a5, a6, a7] [b0, b1, b2, b3, b4, b5, b6, b7] g' ∧ 9 - g'.1 < 9 - g.1 ∧ Keeps S1 (tSt [a0, a1, a2, a3, a4, a5, a6, a7] [b0, b1, b2, b3, b4, b5, b6, b7] g')) ∨
      (o = .exit 0 ∧ Keeps S1 (tSt [a0, a1, a2, a3, a4, a5, a6, a7] [b0, b1, b2, b3, b4, b5, b6, b7] (8, tOut (val [a0, a1, a2, a3, a4, a5, a6, a7] * val [b0, b1, b2, b3, b4, b5, b6, b7])))) := by
  obtain ⟨i, l⟩ := g
  have hlen := h.2.1
  simp only at hlen
  match l, hlen with
  | [o0, o1, o2, o3, o4, o5, o6, o7, o8, o9, o10, o11, o12, o13, o14, o15], _ =>
    have hi : i ≤ 8 := h.1
    match i, hi with
    | 0, _ =>
      cases hz : (a0 == 0) with
      | false => exact step_run (t_step0 a0 a1 a2 a3 a4 a5 a6 a7 b0 b1 b2 b3 b4 b5 b6 b7 o0 o1 o2 o3 o4 o5 o6 o7 o8 o9 o10 o11 o12 o13 o14 o15) (ps_app (ps_cons hz ps_nil) (selfL_ok _ _)) rfl fun S1 hk => .inl ⟨rfl, _, t_next (p := []) (w := [o0, o1, o2, o3, o4, o5, o6, o7]) (r := [o9, o10, o11, o12, o13, o14, o15]) (k := 0) rfl rfl rfl rfl rfl rfl hx hy h, by simp only; omega, hk⟩
      | true => exact step_run (t_skip0 a0 a1 a2 a3 a4 a5 a6 a7 b0 b1 b2 b3 b4 b5 b6 b7 o0 o1 o2 o3 o4 o5 o6 o7 o8 o9 o10 o11 o12 o13 o14 o15) (ps_app (ps_cons hz ps_nil) (selfL_ok _ _)) rfl fun S1 hk => .inl ⟨rfl, _, t_same (k := 0) (a := a0) (by decide) rfl (beq_iff_eq.1 hz) h, by simp only; omega, hk⟩
    | 1, _ =>
      cases hz : (a1 == 0) with
      | false => exact step_run (t_step1 a0 a1 a2 a3 a4 a5 a6 a7 b0 b1 b2 b3 b4 b5 b6 b7 o0 o1 o2 o3 o4 o5 o6 o7 o8 o9 o10 o11 o12 o13 o14 o15) (ps_app (ps_cons hz ps_nil) (selfL_ok _ _)) rfl fun S1 hk => .inl ⟨rfl, _, t_next (p := [o0]) (w := [o1, o2, o3, o4, o5, o6, o7, o8]) (r := [o10, o11, o12, o13, o14, o15]) (k := 1) rfl rfl rfl rfl rfl rfl hx hy h, by simp only; omega, hk⟩
      | true => exact step_run (t_skip1 a0 a1 a2 a3 a4 a5 a6 a7 b0 b1 b2 b3 b4 b5 b6 b7 o0 o1 o2 o3 o4 o5 o6 o7 o8 o9 o10 o11 o12 o13 o14 o15) (ps_app (ps_cons hz ps_nil) (selfL_ok _ _)) rfl fun S1 hk => .inl ⟨rfl, _, t_same (k := 1) (a := a1) (by decide) rfl (beq_iff_eq.1 hz) h, by simp only; omega, hk⟩
    | 2, _ =>
      cases hz : (a2 == 0) with
      | false => exact step_run (t_step2 a0 a1 a2 a3 a4 a5 a6 a7 b0 b1 b2 b3 b4 b5 b6 b7 o0 o1 o2 o3 o4 o5 o6 o7 o8 o9 o10 o11 o12 o13 o14 o15) (ps_app (ps_cons hz ps_nil) (selfL_ok _ _)) rfl fun S1 hk => .inl ⟨rfl, _, t_next (p := [o0, o1]) (w := [o2, o3, o4, o5, o6, o7, o8, o9]) (r := [o11, o12, o13, o14, o15]) (k := 2) rfl rfl rfl rfl rfl rfl hx hy h, by simp only; omega, hk⟩
      | true => exact step_run (t_skip2 a0 a1 a2 a3 a4 a5 a6 a7 b0 b1 b2 b3 b4 b5 b6 b7 o0 o1 o2 o3 o4 o5 o6 o7 o8 o9 o10 o11 o12 o13 o14 o15) (ps_app (ps_cons hz ps_nil) (selfL_ok _ _)) rfl fun S1 hk => .inl ⟨rfl, _, t_same (k := 2) (a := a2) (by decide) rfl (beq_iff_eq.1 hz) h, by simp only; omega, hk⟩
    | 3, _ =>
      cases hz : (a3 == 0) with
      | false => exact step_run (t_step3 a0 a1 a2 a3 a4 a5 a6 a7 b0 b1 b2 b3 b4 b5 b6 b7 o0 o1 o2 o3 o4 o5 o6 o7 o8 o9 o10 o11 o12 o13 o14 o15) (ps_app (ps_cons hz ps_nil) (selfL_ok _ _)) rfl fun S1 hk => .inl ⟨rfl, _, t_next (p := [o0, o1, o2]) (w := [o3, o4, o5, o6, o7, o8, o9, o10]) (r := [o12, o13, o14, o15]) (k := 3) rfl rfl rfl rfl rfl rfl hx hy h, by simp only; omega, hk⟩
      | true => exact step_run (t_skip3 a0 a1 a2 a3 a4 a5 a6 a7 b0 b1 b2 b3 b4 b5 b6 b7 o0 o1 o2 o3 o4 o5 o6 o7 o8 o9 o10 o11 o12 o13 o14 o15) (ps_app (ps_cons hz ps_nil) (selfL_ok _ _)) rfl fun S1 hk => .inl ⟨rfl, _, t_same (k := 3) (a := a3) (by decide) rfl (beq_iff_eq.1 hz) h, by simp only; omega, hk⟩
    | 4, _ =>
      cases hz : (a4 == 0) with
      | false => exact step_run (t_step4 a0 a1 a2 a3 a4 a5 a6 a7 b0 b1 b2 b3 b4 b5 b6 b7 o0 o1 o2 o3 o4 o5 o6 o7 o8 o9 o10 o11 o12 o13 o14 o15) (ps_app (ps_cons hz ps_nil) (selfL_ok _ _)) rfl fun S1 hk => .inl ⟨rfl, _, t_next (p := [o0, o1, o2, o3]) (w := [o4, o5, o6, o7, o8, o9, o10, o11]) (r := [o13, o14, o15]) (k := 4) rfl rfl rfl rfl rfl rfl hx hy h, by simp only; omega, hk⟩
      | true => exact step_run (t_skip4 a0 a1 a2 a3 a4 a5 a6 a7 b0 b1 b2 b3 b4 b5 b6 b7 o0 o1 o2 o3 o4 o5 o6 o7 o8 o9 o10 o11 o12 o13 o14 o15) (ps_app (ps_cons hz ps_nil) (selfL_ok _ _)) rfl fun S1 hk => .inl ⟨rfl, _, t_same (k := 4) (a := a4) (by decide) rfl (beq_iff_eq.1 hz) h, by simp only; omega, hk⟩
    | 5, _ =>
      cases hz : (a5 == 0) with
      | false => exact step_run (t_step5 a0 a1 a2 a3 a4 a5 a6 a7 b0 b1 b2 b3 b4 b5 b6 b7 o0 o1 o2 o3 o4 o5 o6 o7 o8 o9 o10 o11 o12 o13 o14 o15) (ps_app (ps_cons hz ps_nil) (selfL_ok _ _)) rfl fun S1 hk => .inl ⟨rfl, _, t_next (p := [o0, o1, o2, o3, o4]) (w := [o5, o6, o7, o8, o9, o10, o11, o12]) (r := [o14, o15]) (k := 5) rfl rfl rfl rfl rfl rfl hx hy h, by simp only; omega, hk⟩
      | true => exact step_run (t_skip5 a0 a1 a2 a3 a4 a5 a6 a7 b0 b1 b2 b3 b4 b5 b6 b7 o0 o1 o2 o3 o4 o5 o6 o7 o8 o9 o10 o11 o12 o13 o14 o15) (ps_app (ps_cons hz ps_nil) (selfL_ok _ _)) rfl fun S1 hk => .inl ⟨rfl, _, t_same (k := 5) (a := a5) (by decide) rfl (beq_iff_eq.1 hz) h, by simp only; omega, hk⟩
    | 6, _ =>
      cases hz : (a6 == 0) with
      | false => exact step_run (t_step6 a0 a1 a2 a3 a4 a5 a6 a7 b0 b1 b2 b3 b4 b5 b6 b7 o0 o1 o2 o3 o4 o5 o6 o7 o8 o9 o10 o11 o12 o13 o14 o15) (ps_app (ps_cons hz ps_nil) (selfL_ok _ _)) rfl fun S1 hk => .inl ⟨rfl, _, t_next (p := [o0, o1, o2, o3, o4, o5]) (w := [o6, o7, o8, o9, o10, o11, o12, o13]) (r := [o15]) (k := 6) rfl rfl rfl rfl rfl rfl hx hy h, by simp only; omega, hk⟩
      | true => exact step_run (t_skip6 a0 a1 a2 a3 a4 a5 a6 a7 b0 b1 b2 b3 b4 b5 b6 b7 o0 o1 o2 o3 o4 o5 o6 o7 o8 o9 o10 o11 o12 o13 o14 o15) (ps_app (ps_cons hz ps_nil) (selfL_ok _ _)) rfl fun S1 hk => .inl ⟨rfl, _, t_same (k := 6) (a := a6) (by decide) rfl (beq_iff_eq.1 hz) h, by simp only; omega, hk⟩
    | 7, _ =>
      cases hz : (a7 == 0) with
      | false => exact step_run (t_step7 a0 a1 a2 a3 a4 a5 a6 a7 b0 b1 b2 b3 b4 b5 b6 b7 o0 o1 o2 o3 o4 o5 o6 o7 o8 o9 o10 o11 o12 o13 o14 o15) (ps_app (ps_cons hz ps_nil) (selfL_ok _ _)) rfl fun S1 hk => .inl ⟨rfl, _, t_next (p := [o0, o1, o2, o3, o4, o5, o6]) (w := [o7, o8, o9, o10, o11, o12, o13, o14]) (r := []) (k := 7) rfl rfl rfl rfl rfl rfl hx hy h, by simp only; omega, hk⟩
      | true => exact step_run (t_skip7 a0 a1 a2 a3 a4 a5 a6 a7 b0 b1 b2 b3 b4 b5 b6 b7 o0 o1 o2 o3 o4 o5 o6 o7 o8 o9 o10 o11 o12 o13 o14 o15) (ps_app (ps_cons hz ps_nil) (selfL_ok _ _)) rfl fun S1 hk => .inl ⟨rfl, _, t_same (k := 7) (a := a7) (by decide) rfl (beq_iff_eq.1 hz) h, by simp only; omega, hk⟩
    | 8, _ =>
      have h0 := val_nonneg hx
      have h1 := val_nonneg hy
      have e8 : D1 ^ 8 = MM := by decide
      have h2 : val [a0, a1, a2, a3, a4, a5, a6, a7] < D1 ^ 8 := val_lt hx
      have h3 : val [b0, b1, b2, b3, b4, b5, b6, b7] < D1 ^ 8 := val_lt hy
      rw [e8] at h2 h3
      have e := tOut_of h.2.2.1 rfl h.2.2.2 (Int.mul_nonneg h0 h1) (mul_lt h0 h2 h3 (by decide))
      simp only [List.take] at e
      refine step_run (t_exit a0 a1 a2 a3 a4 a5 a6 a7 b0 b1 b2 b3 b4 b5 b6 b7 o0 o1 o2 o3 o4 o5 o6 o7 o8 o9 o10 o11 o12 o13 o14 o15) (selfL_ok _ _) rfl fun S1 hk => .inr ⟨rfl, ?_⟩
      rw [← e]
      exact hk
noncomputable def tLoop (a0 a1 a2 a3 a4 a5 a6 a7 b0 b1 b2 b3 b4 b5 b6 b7 : Int) (hx : allDig [a0, a1, a2, a3, a4, a5, a6, a7]) (hy : allDig [b0, b1, b2, b3, b4, b5, b6, b7]) : CodeC P :=
  loopC mo F4 (by rfl) 1 50 tBody [3, 2, 1, 0] (tSt [a0, a1, a2, a3, a4, a5, a6, a7] [b0, b1, b2, b3, b4, b5, b6, b7]) (tInv [a0, a1, a2, a3, a4, a5, a6, a7] [b0, b1, b2, b3, b4, b5, b6, b7]) (fun g => 9 - g.1) (.exit 0) (tSt [a0, a1, a2, a3, a4, a5, a6, a7] [b0, b1, b2, b3, b4, b5, b6, b7] (8, tOut (val [a0, a1, a2, a3, a4, a5, a6, a7] * val [b0, b1, b2, b3, b4, b5, b6, b7]))) (by simp) (fun _ => rfl) rfl (fun _ => rfl) rfl [] (fun _ => rfl) rfl (t_steps a0 a1 a2 a3 a4 a5 a6 a7 b0 b1 b2 b3 b4 b5 b6 b7 hx hy)
    (0, [0, 0, 0, 0, 0, 0, 0, 0, 0, 0, 0, 0, 0, 0, 0, 0]) ⟨by decide, rfl, by simp [allDig, Dig, D1], by simp [val]⟩
noncomputable def F5 (a0 a1 a2 a3 a4 a5 a6 a7 b0 b1 b2 b3 b4 b5 b6 b7 : Int) (hx : allDig [a0, a1, a2, a3, a4, a5, a6, a7]) (hy : allDig [b0, b1, b2, b3, b4, b5, b6, b7]) : Env P := ⟨⟨[], []⟩, [tLoop a0 a1 a2 a3 a4 a5 a6 a7 b0 b1 b2 b3 b4 b5 b6 b7 hx hy], 10, []⟩
theorem times_run (a0 a1 a2 a3 a4 a5 a6 a7 b0 b1 b2 b3 b4 b5 b6 b7 : Int) (hx : allDig [a0, a1, a2, a3, a4, a5, a6, a7]) (hy : allDig [b0, b1, b2, b3, b4, b5, b6, b7]) : runF P (F5 a0 a1 a2 a3 a4 a5 a6 a7 b0 b1 b2 b3 b4 b5 b6 b7 hx hy) 1 52 [aggL [a0, a1, a2, a3, a4, a5, a6, a7], aggL [b0, b1, b2, b3, b4, b5, b6, b7]] [.n 0] =
    some (aggL (tOut (val [a0, a1, a2, a3, a4, a5, a6, a7] * val [b0, b1, b2, b3, b4, b5, b6, b7])), [(Code.loop tBody = innerOf P 52 0)] ++ selfL (tSt [a0, a1, a2, a3, a4, a5, a6, a7] [b0, b1, b2, b3, b4, b5, b6, b7] (0, [0, 0, 0, 0, 0, 0, 0, 0, 0, 0, 0, 0, 0, 0, 0, 0])) []) := by kernel_rfl
theorem times_gives (args : List Value) (h : timesP args) : Gives P 52 args.toArray (timesV args) := by
  unfold timesP at h
  split at h
  · obtain ⟨⟨m, rfl⟩, ⟨n, rfl⟩⟩ := h
    refine gives_of_run mo (times_run (g0 m) (g1 m) (g2 m) (g3 m) (g4 m) (g5 m) (g6 m) (g7 m) (g0 n) (g1 n) (g2 n) (g3 n) (g4 n) (g5 n) (g6 n) (g7 n) (l8_dig m) (l8_dig n)) (ps_app (ps_cons (by kernel_rfl) ps_nil) (selfL_ok _ _)) ?_
    show aggL (tOut (val (l8 m) * val (l8 n))) = T16 ((dn (Dg m) % MM) * (dn (Dg n) % MM))
    rw [l8_val, l8_val, dn_Dg, dn_Dg, bm_mod, bm_mod]
    rfl
  · exact h.elim
noncomputable def times : Ctr P := ⟨52, timesP, timesV, times_gives⟩
end Go.Rd
/-
  Contracts of the document's answer for wide numbers (gyreref02), fourth part: Mul. The ways are printed by refD.py.
-/
namespace Go.Rd
open Go Go.RowKit Go.Sx Go.Nm Go.Wd Go.Proofs
def mM (a b : Int) : Int := (dn (Dg (absI (tI (W a)))) % MM) * (dn (Dg (absI (tI (W b)))) % MM)
theorem absI_range {x : Int} (h : InR x) : 0 ≤ absI x ∧ absI x ≤ HH := by
  unfold InR at h
  unfold absI
  simp only [HH] at *
  split <;> omega
theorem mM_eq (a b : Int) : mM a b = absI (bm a) * absI (bm b) := by
  have h1 := absI_range (bm_range a)
  have h2 := absI_range (bm_range b)
  unfold mM
  rw [tI_W, tI_W, dn_Dg, dn_Dg, bm_mod, bm_mod, Int.emod_eq_of_lt h1.1 (by simp only [HH, MM] at *; omega), Int.emod_eq_of_lt h2.1 (by simp only [HH, MM] at *; omega)]
theorem mM_range (a b : Int) : 0 ≤ mM a b ∧ mM a b < MM * MM := by
  have h1 := absI_range (bm_range a)
  have h2 := absI_range (bm_range b)
  rw [mM_eq]
  exact ⟨Int.mul_nonneg h1.1 h2.1, mul_lt h1.1 (by simp only [HH, MM] at *; omega) (by simp only [HH, MM] at *; omega) (by decide)⟩
theorem m_same {a b : Int} (h : (decide (bm a < 0) == decide (bm b < 0)) = true) : bm a * bm b = mM a b := by
  rw [mM_eq]
  rw [beq_iff_eq, decide_eq_decide] at h
  unfold absI
  by_cases ha : bm a < 0
  · rw [if_pos ha, if_pos (h.1 ha)]; grind
  · rw [if_neg ha, if_neg (fun hb => ha (h.2 hb))]
theorem m_diff {a b : Int} (h : (decide (bm a < 0) == decide (bm b < 0)) = false) : bm a * bm b = -mM a b := by
  rw [mM_eq]
  rw [beq_eq_false_iff_ne, ne_eq, decide_eq_decide] at h
  unfold absI
  by_cases ha : bm a < 0
  · by_cases hb : bm b < 0
    · exact absurd ⟨fun _ => hb, fun _ => ha⟩ h
    · rw [if_pos ha, if_neg hb]; grind
  · by_cases hb : bm b < 0
    · rw [if_neg ha, if_pos hb]; grind
    · exact absurd ⟨fun h => absurd h ha, fun h => absurd h hb⟩ h
theorem m_high (a b : Int) (h : mM a b / MM ≠ 0) : MM ≤ mM a b := by
  have := (mM_range a b).1
  simp only [MM] at *
  omega
theorem m_low (a b : Int) (h0 : ¬ g0 (mM a b / MM) > 0) (h1 : ¬ g1 (mM a b / MM) > 0) (h2 : ¬ g2 (mM a b / MM) > 0) (h3 : ¬ g3 (mM a b / MM) > 0) (h4 : ¬ g4 (mM a b / MM) > 0) (h5 : ¬ g5 (mM a b / MM) > 0) (h6 : ¬ g6 (mM a b / MM) > 0)
    (h7 : ¬ g7 (mM a b / MM) > 0) : mM a b < MM := by
  have s := g_sum (mM a b / MM)
  have r := mM_range a b
  have i0 := (g0_dig (mM a b / MM)).1
  have i1 := (g1_dig (mM a b / MM)).1
  have i2 := (g2_dig (mM a b / MM)).1
  have i3 := (g3_dig (mM a b / MM)).1
  have i4 := (g4_dig (mM a b / MM)).1
  have i5 := (g5_dig (mM a b / MM)).1
  have i6 := (g6_dig (mM a b / MM)).1
  have i7 := (g7_dig (mM a b / MM)).1
  simp only [MM, D1, D2, D3, D4, D5, D6, D7] at *
  omega
theorem g_pos0 {m : Int} (h : decide (g0 m > 0) = true) : m ≠ 0 := by
  intro e
  rw [e] at h
  exact absurd h (by decide)
theorem g_pos1 {m : Int} (h : decide (g1 m > 0) = true) : m ≠ 0 := by
  intro e
  rw [e] at h
  exact absurd h (by decide)
theorem g_pos2 {m : Int} (h : decide (g2 m > 0) = true) : m ≠ 0 := by
  intro e
  rw [e] at h
  exact absurd h (by decide)
theorem g_pos3 {m : Int} (h : decide (g3 m > 0) = true) : m ≠ 0 := by
  intro e
  rw [e] at h
  exact absurd h (by decide)
theorem g_pos4 {m : Int} (h : decide (g4 m > 0) = true) : m ≠ 0 := by
  intro e
  rw [e] at h
  exact absurd h (by decide)
theorem g_pos5 {m : Int} (h : decide (g5 m > 0) = true) : m ≠ 0 := by
  intro e
  rw [e] at h
  exact absurd h (by decide)
theorem g_pos6 {m : Int} (h : decide (g6 m > 0) = true) : m ≠ 0 := by
  intro e
  rw [e] at h
  exact absurd h (by decide)
theorem g_pos7 {m : Int} (h : decide (g7 m > 0) = true) : m ≠ 0 := by
  intro e
  rw [e] at h
  exact absurd h (by decide)
theorem timesP_D (m n : Int) : timesP [Dg m, Dg n] := ⟨⟨m, rfl⟩, ⟨n, rfl⟩⟩
theorem D1P_g (n : Int) : D1P [.agg #[.int .u64 (g0 n), .int .u64 (g1 n), .int .u64 (g2 n), .int .u64 (g3 n), .int .u64 (g4 n), .int .u64 (g5 n), .int .u64 (g6 n), .int .u64 (g7 n)]] := ⟨n, rfl⟩
theorem WW (m : Int) : W (bm m) = W m := W_congr (bm_mod m)
theorem Wn (m : Int) : W (-bm (bm m)) = W (-m) := W_congr (by
  have h1 := bm_mod m
  rw [bm_in (bm_range m)]
  simp only [MM] at *
  omega)
theorem out_of {x : Int} (h : ¬ InR x) : true = !inRB x := by rw [inRB_not.2 h]; rfl
theorem mul_same_high {a b : Int} (h : MM ≤ mM a b) (q : (decide (bm a < 0) == decide (bm b < 0)) = true) : Value.tuple #[W (bm (mM a b)), .bool true] = .tuple #[W (bm a * bm b), .bool (!inRB (bm a * bm b))] := by
  rw [m_same q, WW, ← out_of (by unfold InR; simp only [MM, HH] at *; omega)]
theorem mul_diff_high {a b : Int} (h : MM ≤ mM a b) (q : (decide (bm a < 0) == decide (bm b < 0)) = false) : Value.tuple #[W (-bm (bm (mM a b))), .bool true] = .tuple #[W (bm a * bm b), .bool (!inRB (bm a * bm b))] := by
  rw [m_diff q, Wn, ← out_of (by unfold InR; simp only [MM, HH] at *; omega)]
theorem mul_same_low {a b : Int} (h : mM a b < MM) (q : (decide (bm a < 0) == decide (bm b < 0)) = true) :
    Value.tuple #[W (bm (mM a b)), .bool (decide (bm (bm (mM a b)) < 0))] = .tuple #[W (bm a * bm b), .bool (!inRB (bm a * bm b))] := by
  rw [m_same q, WW, bm_in (bm_range _)]
  have e : decide (bm (mM a b) < 0) = !inRB (mM a b) := by
    have r := (mM_range a b).1
    have h1 := bm_mod (mM a b)
    have h2 := bm_range (mM a b)
    unfold InR at h2
    unfold inRB
    rw [Bool.eq_iff_iff]
    simp only [decide_eq_true_iff, Bool.not_eq_true', Bool.and_eq_false_iff, decide_eq_false_iff_not]
    simp only [MM, HH] at *
    omega
  rw [e]
theorem mul_diff_low {a b : Int} (h : mM a b < MM) (q : (decide (bm a < 0) == decide (bm b < 0)) = false) (z : (!(weq (bm (mM a b)) 0)) = true) :
    Value.tuple #[W (-bm (bm (mM a b))), .bool (!(decide (bm (-bm (bm (mM a b))) < 0)))] = .tuple #[W (bm a * bm b), .bool (!inRB (bm a * bm b))] := by
  rw [m_diff q, Wn]
  have e : decide (bm (-bm (bm (mM a b))) < 0) = inRB (-mM a b) := by
    have r := (mM_range a b).1
    have h1 := bm_mod (mM a b)
    have h2 := bm_range (mM a b)
    rw [bm_in h2]
    have h3 := bm_mod (-bm (mM a b))
    have h4 := bm_range (-bm (mM a b))
    rw [weq_eq] at z
    unfold InR at h2 h4
    unfold inRB
    rw [Bool.eq_iff_iff]
    simp only [decide_eq_true_iff, Bool.not_eq_true', Bool.and_eq_true, decide_eq_false_iff_not] at *
    simp only [MM, HH] at *
    omega
  rw [e]
theorem mul_diff_zero {a b : Int} (h : mM a b < MM) (q : (decide (bm a < 0) == decide (bm b < 0)) = false) (z : (!(weq (bm (mM a b)) 0)) = false) :
    Value.tuple #[W (-bm (bm (mM a b))), .bool false] = .tuple #[W (bm a * bm b), .bool (!inRB (bm a * bm b))] := by
  have e : mM a b = 0 := by
    have r := (mM_range a b).1
    have h1 := bm_mod (mM a b)
    rw [weq_eq] at z
    simp only [Bool.not_eq_false', decide_eq_true_iff] at z
    simp only [MM] at *
    omega
  rw [m_diff q, Wn, e]
  rfl
noncomputable def F6 : Env P := ⟨[digits, wide, low, not, plus, neg, add, sub, of, int, size, cmp, sign, times], [], 10, []⟩
theorem mul_run0 (a b : Int) : runF P F6 1 32 [W a, W b] (lits 9 (.b true :: (lits 32 (.b true :: [])))) =
  some (.tuple #[W (dn (Dg (mM a b))), .bool true], [P1 [W a], P1 [W b], timesP [Dg (absI (tI (W a))), Dg (absI (tI (W b)))], (decide (g0 (mM a b / MM) > 0)) = true, D1P [.agg #[.int .u64 (g0 (mM a b)), .int .u64 (g1 (mM a b)), .int .u64 (g2 (mM a b)), .int .u64 (g3 (mM a b)), .int .u64 (g4 (mM a b)), .int .u64 (g5 (mM a b)), .int .u64 (g6 (mM a b)), .int .u64 (g7 (mM a b))]], P1 [W a], P1 [W b], ((decide (tI (W a) < 0)) == (decide (tI (W b) < 0))) = true]) := by kernel_rfl
theorem mul_run1 (a b : Int) : runF P F6 1 32 [W a, W b] (lits 9 (.b false :: (lits 4 (.b true :: (lits 27 (.b true :: [])))))) =
  some (.tuple #[W (dn (Dg (mM a b))), .bool true], [P1 [W a], P1 [W b], timesP [Dg (absI (tI (W a))), Dg (absI (tI (W b)))], (decide (g0 (mM a b / MM) > 0)) = false, (decide (g1 (mM a b / MM) > 0)) = true, D1P [.agg #[.int .u64 (g0 (mM a b)), .int .u64 (g1 (mM a b)), .int .u64 (g2 (mM a b)), .int .u64 (g3 (mM a b)), .int .u64 (g4 (mM a b)), .int .u64 (g5 (mM a b)), .int .u64 (g6 (mM a b)), .int .u64 (g7 (mM a b))]], P1 [W a], P1 [W b], ((decide (tI (W a) < 0)) == (decide (tI (W b) < 0))) = true]) := by kernel_rfl
theorem mul_run2 (a b : Int) : runF P F6 1 32 [W a, W b] (lits 9 (.b false :: (lits 4 (.b false :: (lits 4 (.b true :: (lits 22 (.b true :: [])))))))) =
  some (.tuple #[W (dn (Dg (mM a b))), .bool true], [P1 [W a], P1 [W b], timesP [Dg (absI (tI (W a))), Dg (absI (tI (W b)))], (decide (g0 (mM a b / MM) > 0)) = false, (decide (g1 (mM a b / MM) > 0)) = false, (decide (g2 (mM a b / MM) > 0)) = true, D1P [.agg #[.int .u64 (g0 (mM a b)), .int .u64 (g1 (mM a b)), .int .u64 (g2 (mM a b)), .int .u64 (g3 (mM a b)), .int .u64 (g4 (mM a b)), .int .u64 (g5 (mM a b)), .int .u64 (g6 (mM a b)), .int .u64 (g7 (mM a b))]], P1 [W a], P1 [W b], ((decide (tI (W a) < 0)) == (decide (tI (W b) < 0))) = true]) := by kernel_rfl
theorem mul_run3 (a b : Int) : runF P F6 1 32 [W a, W b] (lits 9 (.b false :: (lits 4 (.b false :: (lits 4 (.b false :: (lits 4 (.b true :: (lits 17 (.b true :: [])))))))))) =
  some (.tuple #[W (dn (Dg (mM a b))), .bool true], [P1 [W a], P1 [W b], timesP [Dg (absI (tI (W a))), Dg (absI (tI (W b)))], (decide (g0 (mM a b / MM) > 0)) = false, (decide (g1 (mM a b / MM) > 0)) = false, (decide (g2 (mM a b / MM) > 0)) = false, (decide (g3 (mM a b / MM) > 0)) = true, D1P [.agg #[.int .u64 (g0 (mM a b)), .int .u64 (g1 (mM a b)), .int .u64 (g2 (mM a b)), .int .u64 (g3 (mM a b)), .int .u64 (g4 (mM a b)), .int .u64 (g5 (mM a b)), .int .u64 (g6 (mM a b)), .int .u64 (g7 (mM a b))]], P1 [W a], P1 [W b], ((decide (tI (W a) < 0)) == (decide (tI (W b) < 0))) = true]) := by kernel_rfl
theorem mul_run4 (a b : Int) : runF P F6 1 32 [W a, W b] (lits 9 (.b false :: (lits 4 (.b false :: (lits 4 (.b false :: (lits 4 (.b false :: (lits 4 (.b true :: (lits 12 (.b true :: [])))))))))))) =
  some (.tuple #[W (dn (Dg (mM a b))), .bool true], [P1 [W a], P1 [W b], timesP [Dg (absI (tI (W a))), Dg (absI (tI (W b)))], (decide (g0 (mM a b / MM) > 0)) = false, (decide (g1 (mM a b / MM) > 0)) = false, (decide (g2 (mM a b / MM) > 0)) = false, (decide (g3 (mM a b / MM) > 0)) = false, (decide (g4 (mM a b / MM) > 0)) = true, D1P [.agg #[.int .u64 (g0 (mM a b)), .int .u64 (g1 (mM a b)), .int .u64 (g2 (mM a b)), .int .u64 (g3 (mM a b)), .int .u64 (g4 (mM a b)), .int .u64 (g5 (mM a b)), .int .u64 (g6 (mM a b)), .int .u64 (g7 (mM a b))]], P1 [W a], P1 [W b], ((decide (tI (W a) < 0)) == (decide (tI (W b) < 0))) = true]) := by kernel_rfl
theorem mul_run5 (a b : Int) : runF P F6 1 32 [W a, W b] (lits 9 (.b false :: (lits 4 (.b false :: (lits 4 (.b false :: (lits 4 (.b false :: (lits 4 (.b false :: (lits 4 (.b true :: (lits 7 (.b true :: [])))))))))))))) =
  some (.tuple #[W (dn (Dg (mM a b))), .bool true], [P1 [W a], P1 [W b], timesP [Dg (absI (tI (W a))), Dg (absI (tI (W b)))], (decide (g0 (mM a b / MM) > 0)) = false, (decide (g1 (mM a b / MM) > 0)) = false, (decide (g2 (mM a b / MM) > 0)) = false, (decide (g3 (mM a b / MM) > 0)) = false, (decide (g4 (mM a b / MM) > 0)) = false, (decide (g5 (mM a b / MM) > 0)) = true, D1P [.agg #[.int .u64 (g0 (mM a b)), .int .u64 (g1 (mM a b)), .int .u64 (g2 (mM a b)), .int .u64 (g3 (mM a b)), .int .u64 (g4 (mM a b)), .int .u64 (g5 (mM a b)), .int .u64 (g6 (mM a b)), .int .u64 (g7 (mM a b))]], P1 [W a], P1 [W b], ((decide (tI (W a) < 0)) == (decide (tI (W b) < 0))) = true]) := by kernel_rfl
theorem mul_run6 (a b : Int) : runF P F6 1 32 [W a, W b] (lits 9 (.b false :: (lits 4 (.b false :: (lits 4 (.b false :: (lits 4 (.b false :: (lits 4 (.b false :: (lits 4 (.b false :: (lits 4 (.b true :: (.lit :: (.lit :: (.b true :: []))))))))))))))))) =
  some (.tuple #[W (dn (Dg (mM a b))), .bool true], [P1 [W a], P1 [W b], timesP [Dg (absI (tI (W a))), Dg (absI (tI (W b)))], (decide (g0 (mM a b / MM) > 0)) = false, (decide (g1 (mM a b / MM) > 0)) = false, (decide (g2 (mM a b / MM) > 0)) = false, (decide (g3 (mM a b / MM) > 0)) = false, (decide (g4 (mM a b / MM) > 0)) = false, (decide (g5 (mM a b / MM) > 0)) = false, (decide (g6 (mM a b / MM) > 0)) = true, D1P [.agg #[.int .u64 (g0 (mM a b)), .int .u64 (g1 (mM a b)), .int .u64 (g2 (mM a b)), .int .u64 (g3 (mM a b)), .int .u64 (g4 (mM a b)), .int .u64 (g5 (mM a b)), .int .u64 (g6 (mM a b)), .int .u64 (g7 (mM a b))]], P1 [W a], P1 [W b], ((decide (tI (W a) < 0)) == (decide (tI (W b) < 0))) = true]) := by kernel_rfl
theorem mul_run7 (a b : Int) : runF P F6 1 32 [W a, W b] (lits 9 (.b false :: (lits 4 (.b false :: (lits 4 (.b false :: (lits 4 (.b false :: (lits 4 (.b false :: (lits 4 (.b false :: (lits 4 (.b false :: (.lit :: (.lit :: (.b true :: (.b true :: [])))))))))))))))))) =
  some (.tuple #[W (dn (Dg (mM a b))), .bool true], [P1 [W a], P1 [W b], timesP [Dg (absI (tI (W a))), Dg (absI (tI (W b)))], (decide (g0 (mM a b / MM) > 0)) = false, (decide (g1 (mM a b / MM) > 0)) = false, (decide (g2 (mM a b / MM) > 0)) = false, (decide (g3 (mM a b / MM) > 0)) = false, (decide (g4 (mM a b / MM) > 0)) = false, (decide (g5 (mM a b / MM) > 0)) = false, (decide (g6 (mM a b / MM) > 0)) = false, D1P [.agg #[.int .u64 (g0 (mM a b)), .int .u64 (g1 (mM a b)), .int .u64 (g2 (mM a b)), .int .u64 (g3 (mM a b)), .int .u64 (g4 (mM a b)), .int .u64 (g5 (mM a b)), .int .u64 (g6 (mM a b)), .int .u64 (g7 (mM a b))]], P1 [W a], P1 [W b], ((decide (tI (W a) < 0)) == (decide (tI (W b) < 0))) = true, (decide (g7 (mM a b / MM) > 0)) = true]) := by kernel_rfl
theorem mul_run8 (a b : Int) : runF P F6 1 32 [W a, W b] (lits 9 (.b false :: (lits 4 (.b false :: (lits 4 (.b false :: (lits 4 (.b false :: (lits 4 (.b false :: (lits 4 (.b false :: (lits 4 (.b false :: (.lit :: (.lit :: (.b false :: (.b true :: [])))))))))))))))))) =
  some (.tuple #[W (-tI (W (dn (Dg (mM a b))))), .bool true], [P1 [W a], P1 [W b], timesP [Dg (absI (tI (W a))), Dg (absI (tI (W b)))], (decide (g0 (mM a b / MM) > 0)) = false, (decide (g1 (mM a b / MM) > 0)) = false, (decide (g2 (mM a b / MM) > 0)) = false, (decide (g3 (mM a b / MM) > 0)) = false, (decide (g4 (mM a b / MM) > 0)) = false, (decide (g5 (mM a b / MM) > 0)) = false, (decide (g6 (mM a b / MM) > 0)) = false, D1P [.agg #[.int .u64 (g0 (mM a b)), .int .u64 (g1 (mM a b)), .int .u64 (g2 (mM a b)), .int .u64 (g3 (mM a b)), .int .u64 (g4 (mM a b)), .int .u64 (g5 (mM a b)), .int .u64 (g6 (mM a b)), .int .u64 (g7 (mM a b))]], P1 [W a], P1 [W b], ((decide (tI (W a) < 0)) == (decide (tI (W b) < 0))) = false, P1 [W (dn (Dg (mM a b)))], (decide (g7 (mM a b / MM) > 0)) = true]) := by kernel_rfl
theorem mul_run9 (a b : Int) : runF P F6 1 32 [W a, W b] (lits 9 (.b false :: (lits 4 (.b false :: (lits 4 (.b false :: (lits 4 (.b false :: (lits 4 (.b false :: (lits 4 (.b false :: (lits 4 (.b false :: (.lit :: (.lit :: (.b false :: (.b false :: (.b true :: []))))))))))))))))))) =
  some (.tuple #[W (-tI (W (dn (Dg (mM a b))))), .bool (!(decide (tI (W (-tI (W (dn (Dg (mM a b)))))) < 0)))], [P1 [W a], P1 [W b], timesP [Dg (absI (tI (W a))), Dg (absI (tI (W b)))], (decide (g0 (mM a b / MM) > 0)) = false, (decide (g1 (mM a b / MM) > 0)) = false, (decide (g2 (mM a b / MM) > 0)) = false, (decide (g3 (mM a b / MM) > 0)) = false, (decide (g4 (mM a b / MM) > 0)) = false, (decide (g5 (mM a b / MM) > 0)) = false, (decide (g6 (mM a b / MM) > 0)) = false, D1P [.agg #[.int .u64 (g0 (mM a b)), .int .u64 (g1 (mM a b)), .int .u64 (g2 (mM a b)), .int .u64 (g3 (mM a b)), .int .u64 (g4 (mM a b)), .int .u64 (g5 (mM a b)), .int .u64 (g6 (mM a b)), .int .u64 (g7 (mM a b))]], P1 [W a], P1 [W b], ((decide (tI (W a) < 0)) == (decide (tI (W b) < 0))) = false, P1 [W (dn (Dg (mM a b)))], (decide (g7 (mM a b / MM) > 0)) = false, (!(weq (dn (Dg (mM a b))) 0)) = true, P1 [W (-tI (W (dn (Dg (mM a b)))))]]) := by kernel_rfl
theorem mul_run10 (a b : Int) : runF P F6 1 32 [W a, W b] (lits 9 (.b false :: (lits 4 (.b false :: (lits 4 (.b false :: (lits 4 (.b false :: (lits 4 (.b false :: (lits 4 (.b false :: (lits 4 (.b false :: (.lit :: (.lit :: (.b false :: (.b false :: (.b false :: []))))))))))))))))))) =
  some (.tuple #[W (-tI (W (dn (Dg (mM a b))))), .bool false], [P1 [W a], P1 [W b], timesP [Dg (absI (tI (W a))), Dg (absI (tI (W b)))], (decide (g0 (mM a b / MM) > 0)) = false, (decide (g1 (mM a b / MM) > 0)) = false, (decide (g2 (mM a b / MM) > 0)) = false, (decide (g3 (mM a b / MM) > 0)) = false, (decide (g4 (mM a b / MM) > 0)) = false, (decide (g5 (mM a b / MM) > 0)) = false, (decide (g6 (mM a b / MM) > 0)) = false, D1P [.agg #[.int .u64 (g0 (mM a b)), .int .u64 (g1 (mM a b)), .int .u64 (g2 (mM a b)), .int .u64 (g3 (mM a b)), .int .u64 (g4 (mM a b)), .int .u64 (g5 (mM a b)), .int .u64 (g6 (mM a b)), .int .u64 (g7 (mM a b))]], P1 [W a], P1 [W b], ((decide (tI (W a) < 0)) == (decide (tI (W b) < 0))) = false, P1 [W (dn (Dg (mM a b)))], (decide (g7 (mM a b / MM) > 0)) = false, (!(weq (dn (Dg (mM a b))) 0)) = false]) := by kernel_rfl
theorem mul_run11 (a b : Int) : runF P F6 1 32 [W a, W b] (lits 9 (.b false :: (lits 4 (.b false :: (lits 4 (.b false :: (lits 4 (.b false :: (lits 4 (.b false :: (lits 4 (.b false :: (lits 4 (.b false :: (.lit :: (.lit :: (.b true :: (.b false :: [])))))))))))))))))) =
  some (.tuple #[W (dn (Dg (mM a b))), .bool (decide (tI (W (dn (Dg (mM a b)))) < 0))], [P1 [W a], P1 [W b], timesP [Dg (absI (tI (W a))), Dg (absI (tI (W b)))], (decide (g0 (mM a b / MM) > 0)) = false, (decide (g1 (mM a b / MM) > 0)) = false, (decide (g2 (mM a b / MM) > 0)) = false, (decide (g3 (mM a b / MM) > 0)) = false, (decide (g4 (mM a b / MM) > 0)) = false, (decide (g5 (mM a b / MM) > 0)) = false, (decide (g6 (mM a b / MM) > 0)) = false, D1P [.agg #[.int .u64 (g0 (mM a b)), .int .u64 (g1 (mM a b)), .int .u64 (g2 (mM a b)), .int .u64 (g3 (mM a b)), .int .u64 (g4 (mM a b)), .int .u64 (g5 (mM a b)), .int .u64 (g6 (mM a b)), .int .u64 (g7 (mM a b))]], P1 [W a], P1 [W b], ((decide (tI (W a) < 0)) == (decide (tI (W b) < 0))) = true, (decide (g7 (mM a b / MM) > 0)) = false, P1 [W (dn (Dg (mM a b)))]]) := by kernel_rfl
theorem mul_run12 (a b : Int) : runF P F6 1 32 [W a, W b] (lits 9 (.b false :: (lits 4 (.b false :: (lits 4 (.b false :: (lits 4 (.b false :: (lits 4 (.b false :: (lits 4 (.b false :: (lits 4 (.b true :: (.lit :: (.lit :: (.b false :: []))))))))))))))))) =
  some (.tuple #[W (-tI (W (dn (Dg (mM a b))))), .bool true], [P1 [W a], P1 [W b], timesP [Dg (absI (tI (W a))), Dg (absI (tI (W b)))], (decide (g0 (mM a b / MM) > 0)) = false, (decide (g1 (mM a b / MM) > 0)) = false, (decide (g2 (mM a b / MM) > 0)) = false, (decide (g3 (mM a b / MM) > 0)) = false, (decide (g4 (mM a b / MM) > 0)) = false, (decide (g5 (mM a b / MM) > 0)) = false, (decide (g6 (mM a b / MM) > 0)) = true, D1P [.agg #[.int .u64 (g0 (mM a b)), .int .u64 (g1 (mM a b)), .int .u64 (g2 (mM a b)), .int .u64 (g3 (mM a b)), .int .u64 (g4 (mM a b)), .int .u64 (g5 (mM a b)), .int .u64 (g6 (mM a b)), .int .u64 (g7 (mM a b))]], P1 [W a], P1 [W b], ((decide (tI (W a) < 0)) == (decide (tI (W b) < 0))) = false, P1 [W (dn (Dg (mM a b)))]]) := by kernel_rfl
theorem mul_run13 (a b : Int) : runF P F6 1 32 [W a, W b] (lits 9 (.b false :: (lits 4 (.b false :: (lits 4 (.b false :: (lits 4 (.b false :: (lits 4 (.b false :: (lits 4 (.b true :: (lits 7 (.b false :: [])))))))))))))) =
  some (.tuple #[W (-tI (W (dn (Dg (mM a b))))), .bool true], [P1 [W a], P1 [W b], timesP [Dg (absI (tI (W a))), Dg (absI (tI (W b)))], (decide (g0 (mM a b / MM) > 0)) = false, (decide (g1 (mM a b / MM) > 0)) = false, (decide (g2 (mM a b / MM) > 0)) = false, (decide (g3 (mM a b / MM) > 0)) = false, (decide (g4 (mM a b / MM) > 0)) = false, (decide (g5 (mM a b / MM) > 0)) = true, D1P [.agg #[.int .u64 (g0 (mM a b)), .int .u64 (g1 (mM a b)), .int .u64 (g2 (mM a b)), .int .u64 (g3 (mM a b)), .int .u64 (g4 (mM a b)), .int .u64 (g5 (mM a b)), .int .u64 (g6 (mM a b)), .int .u64 (g7 (mM a b))]], P1 [W a], P1 [W b], ((decide (tI (W a) < 0)) == (decide (tI (W b) < 0))) = false, P1 [W (dn (Dg (mM a b)))]]) := by kernel_rfl
theorem mul_run14 (a b : Int) : runF P F6 1 32 [W a, W b] (lits 9 (.b false :: (lits 4 (.b false :: (lits 4 (.b false :: (lits 4 (.b false :: (lits 4 (.b true :: (lits 12 (.b false :: [])))))))))))) =
  some (.tuple #[W (-tI (W (dn (Dg (mM a b))))), .bool true], [P1 [W a], P1 [W b], timesP [Dg (absI (tI (W a))), Dg (absI (tI (W b)))], (decide (g0 (mM a b / MM) > 0)) = false, (decide (g1 (mM a b / MM) > 0)) = false, (decide (g2 (mM a b / MM) > 0)) = false, (decide (g3 (mM a b / MM) > 0)) = false, (decide (g4 (mM a b / MM) > 0)) = true, D1P [.agg #[.int .u64 (g0 (mM a b)), .int .u64 (g1 (mM a b)), .int .u64 (g2 (mM a b)), .int .u64 (g3 (mM a b)), .int .u64 (g4 (mM a b)), .int .u64 (g5 (mM a b)), .int .u64 (g6 (mM a b)), .int .u64 (g7 (mM a b))]], P1 [W a], P1 [W b], ((decide (tI (W a) < 0)) == (decide (tI (W b) < 0))) = false, P1 [W (dn (Dg (mM a b)))]]) := by kernel_rfl
theorem mul_run15 (a b : Int) : runF P F6 1 32 [W a, W b] (lits 9 (.b false :: (lits 4 (.b false :: (lits 4 (.b false :: (lits 4 (.b true :: (lits 17 (.b false :: [])))))))))) =
  some (.tuple #[W (-tI (W (dn (Dg (mM a b))))), .bool true], [P1 [W a], P1 [W b], timesP [Dg (absI (tI (W a))), Dg (absI (tI (W b)))], (decide (g0 (mM a b / MM) > 0)) = false, (decide (g1 (mM a b / MM) > 0)) = false, (decide (g2 (mM a b / MM) > 0)) = false, (decide (g3 (mM a b / MM) > 0)) = true, D1P [.agg #[.int .u64 (g0 (mM a b)), .int .u64 (g1 (mM a b)), .int .u64 (g2 (mM a b)), .int .u64 (g3 (mM a b)), .int .u64 (g4 (mM a b)), .int .u64 (g5 (mM a b)), .int .u64 (g6 (mM a b)), .int .u64 (g7 (mM a b))]], P1 [W a], P1 [W b], ((decide (tI (W a) < 0)) == (decide (tI (W b) < 0))) = false, P1 [W (dn (Dg (mM a b)))]]) := by kernel_rfl
theorem mul_run16 (a b : Int) : runF P F6 1 32 [W a, W b] (lits 9 (.b false :: (lits 4 (.b false :: (lits 4 (.b true :: (lits 22 (.b false :: [])))))))) =
  some (.tuple #[W (-tI (W (dn (Dg (mM a b))))), .bool true], [P1 [W a], P1 [W b], timesP [Dg (absI (tI (W a))), Dg (absI (tI (W b)))], (decide (g0 (mM a b / MM) > 0)) = false, (decide (g1 (mM a b / MM) > 0)) = false, (decide (g2 (mM a b / MM) > 0)) = true, D1P [.agg #[.int .u64 (g0 (mM a b)), .int .u64 (g1 (mM a b)), .int .u64 (g2 (mM a b)), .int .u64 (g3 (mM a b)), .int .u64 (g4 (mM a b)), .int .u64 (g5 (mM a b)), .int .u64 (g6 (mM a b)), .int .u64 (g7 (mM a b))]], P1 [W a], P1 [W b], ((decide (tI (W a) < 0)) == (decide (tI (W b) < 0))) = false, P1 [W (dn (Dg (mM a b)))]]) := by kernel_rfl
theorem mul_run17 (a b : Int) : runF P F6 1 32 [W a, W b] (lits 9 (.b false :: (lits 4 (.b true :: (lits 27 (.b false :: [])))))) =
  some (.tuple #[W (-tI (W (dn (Dg (mM a b))))), .bool true], [P1 [W a], P1 [W b], timesP [Dg (absI (tI (W a))), Dg (absI (tI (W b)))], (decide (g0 (mM a b / MM) > 0)) = false, (decide (g1 (mM a b / MM) > 0)) = true, D1P [.agg #[.int .u64 (g0 (mM a b)), .int .u64 (g1 (mM a b)), .int .u64 (g2 (mM a b)), .int .u64 (g3 (mM a b)), .int .u64 (g4 (mM a b)), .int .u64 (g5 (mM a b)), .int .u64 (g6 (mM a b)), .int .u64 (g7 (mM a b))]], P1 [W a], P1 [W b], ((decide (tI (W a) < 0)) == (decide (tI (W b) < 0))) = false, P1 [W (dn (Dg (mM a b)))]]) := by kernel_rfl
theorem mul_run18 (a b : Int) : runF P F6 1 32 [W a, W b] (lits 9 (.b true :: (lits 32 (.b false :: [])))) =
  some (.tuple #[W (-tI (W (dn (Dg (mM a b))))), .bool true], [P1 [W a], P1 [W b], timesP [Dg (absI (tI (W a))), Dg (absI (tI (W b)))], (decide (g0 (mM a b / MM) > 0)) = true, D1P [.agg #[.int .u64 (g0 (mM a b)), .int .u64 (g1 (mM a b)), .int .u64 (g2 (mM a b)), .int .u64 (g3 (mM a b)), .int .u64 (g4 (mM a b)), .int .u64 (g5 (mM a b)), .int .u64 (g6 (mM a b)), .int .u64 (g7 (mM a b))]], P1 [W a], P1 [W b], ((decide (tI (W a) < 0)) == (decide (tI (W b) < 0))) = false, P1 [W (dn (Dg (mM a b)))]]) := by kernel_rfl
theorem mul_leaf0 (a b : Int)  (q1 : (decide (g0 (mM a b / MM) > 0)) = true) (q2 : ((decide (tI (W a) < 0)) == (decide (tI (W b) < 0))) = true) : Gives P 32 #[W a, W b] (mulV [W a, W b]) := by
  refine gives_of_run mo (mul_run0 a b) (ps_cons (P1_W _) (ps_cons (P1_W _) (ps_cons (timesP_D _ _) (ps_cons q1 (ps_cons (D1P_g (mM a b)) (ps_cons (P1_W _) (ps_cons (P1_W _) (ps_cons q2 ps_nil)))))))) ?_
  simp only [mulV, tI_W, dn_Dg] at *
  exact mul_same_high (m_high a b (g_pos0 q1)) q2
theorem mul_leaf18 (a b : Int)  (q1 : (decide (g0 (mM a b / MM) > 0)) = true) (q2 : ((decide (tI (W a) < 0)) == (decide (tI (W b) < 0))) = false) : Gives P 32 #[W a, W b] (mulV [W a, W b]) := by
  refine gives_of_run mo (mul_run18 a b) (ps_cons (P1_W _) (ps_cons (P1_W _) (ps_cons (timesP_D _ _) (ps_cons q1 (ps_cons (D1P_g (mM a b)) (ps_cons (P1_W _) (ps_cons (P1_W _) (ps_cons q2 (ps_cons (P1_W _) ps_nil))))))))) ?_
  simp only [mulV, tI_W, dn_Dg] at *
  exact mul_diff_high (m_high a b (g_pos0 q1)) q2
theorem mul_leaf1 (a b : Int)  (q1 : (decide (g0 (mM a b / MM) > 0)) = false) (q3 : (decide (g1 (mM a b / MM) > 0)) = true) (q4 : ((decide (tI (W a) < 0)) == (decide (tI (W b) < 0))) = true) : Gives P 32 #[W a, W b] (mulV [W a, W b]) := by
  refine gives_of_run mo (mul_run1 a b) (ps_cons (P1_W _) (ps_cons (P1_W _) (ps_cons (timesP_D _ _) (ps_cons q1 (ps_cons q3 (ps_cons (D1P_g (mM a b)) (ps_cons (P1_W _) (ps_cons (P1_W _) (ps_cons q4 ps_nil))))))))) ?_
  simp only [mulV, tI_W, dn_Dg] at *
  exact mul_same_high (m_high a b (g_pos1 q3)) q4
theorem mul_leaf17 (a b : Int)  (q1 : (decide (g0 (mM a b / MM) > 0)) = false) (q3 : (decide (g1 (mM a b / MM) > 0)) = true) (q4 : ((decide (tI (W a) < 0)) == (decide (tI (W b) < 0))) = false) : Gives P 32 #[W a, W b] (mulV [W a, W b]) := by
  refine gives_of_run mo (mul_run17 a b) (ps_cons (P1_W _) (ps_cons (P1_W _) (ps_cons (timesP_D _ _) (ps_cons q1 (ps_cons q3 (ps_cons (D1P_g (mM a b)) (ps_cons (P1_W _) (ps_cons (P1_W _) (ps_cons q4 (ps_cons (P1_W _) ps_nil)))))))))) ?_
  simp only [mulV, tI_W, dn_Dg] at *
  exact mul_diff_high (m_high a b (g_pos1 q3)) q4
theorem mul_leaf2 (a b : Int)  (q1 : (decide (g0 (mM a b / MM) > 0)) = false) (q3 : (decide (g1 (mM a b / MM) > 0)) = false) (q5 : (decide (g2 (mM a b / MM) > 0)) = true) (q6 : ((decide (tI (W a) < 0)) == (decide (tI (W b) < 0))) = true) : Gives P 32 #[W a, W b] (mulV [W a, W b]) := by
  refine gives_of_run mo (mul_run2 a b) (ps_cons (P1_W _) (ps_cons (P1_W _) (ps_cons (timesP_D _ _) (ps_cons q1 (ps_cons q3 (ps_cons q5 (ps_cons (D1P_g (mM a b)) (ps_cons (P1_W _) (ps_cons (P1_W _) (ps_cons q6 ps_nil)))))))))) ?_
  simp only [mulV, tI_W, dn_Dg] at *
  exact mul_same_high (m_high a b (g_pos2 q5)) q6
theorem mul_leaf16 (a b : Int)  (q1 : (decide (g0 (mM a b / MM) > 0)) = false) (q3 : (decide (g1 (mM a b / MM) > 0)) = false) (q5 : (decide (g2 (mM a b / MM) > 0)) = true) (q6 : ((decide (tI (W a) < 0)) == (decide (tI (W b) < 0))) = false) : Gives P 32 #[W a, W b] (mulV [W a, W b]) := by
  refine gives_of_run mo (mul_run16 a b) (ps_cons (P1_W _) (ps_cons (P1_W _) (ps_cons (timesP_D _ _) (ps_cons q1 (ps_cons q3 (ps_cons q5 (ps_cons (D1P_g (mM a b)) (ps_cons (P1_W _) (ps_cons (P1_W _) (ps_cons q6 (ps_cons (P1_W _) ps_nil))))))))))) ?_
  simp only [mulV, tI_W, dn_Dg] at *
  exact mul_diff_high (m_high a b (g_pos2 q5)) q6
theorem mul_leaf3 (a b : Int)  (q1 : (decide (g0 (mM a b / MM) > 0)) = false) (q3 : (decide (g1 (mM a b / MM) > 0)) = false) (q5 : (decide (g2 (mM a b / MM) > 0)) = false) (q7 : (decide (g3 (mM a b / MM) > 0)) = true) (q8 : ((decide (tI (W a) < 0)) == (decide (tI (W b) < 0))) = true) : Gives P 32 #[W a, W b] (mulV [W a, W b]) := by
  refine gives_of_run mo (mul_run3 a b) (ps_cons (P1_W _) (ps_cons (P1_W _) (ps_cons (timesP_D _ _) (ps_cons q1 (ps_cons q3 (ps_cons q5 (ps_cons q7 (ps_cons (D1P_g (mM a b)) (ps_cons (P1_W _) (ps_cons (P1_W _) (ps_cons q8 ps_nil))))))))))) ?_
  simp only [mulV, tI_W, dn_Dg] at *
  exact mul_same_high (m_high a b (g_pos3 q7)) q8
theorem mul_leaf15 (a b : Int)  (q1 : (decide (g0 (mM a b / MM) > 0)) = false) (q3 : (decide (g1 (mM a b / MM) > 0)) = false) (q5 : (decide (g2 (mM a b / MM) > 0)) = false) (q7 : (decide (g3 (mM a b / MM) > 0)) = true) (q8 : ((decide (tI (W a) < 0)) == (decide (tI (W b) < 0))) = false) : Gives P 32 #[W a, W b] (mulV [W a, W b]) := by
  refine gives_of_run mo (mul_run15 a b) (ps_cons (P1_W _) (ps_cons (P1_W _) (ps_cons (timesP_D _ _) (ps_cons q1 (ps_cons q3 (ps_cons q5 (ps_cons q7 (ps_cons (D1P_g (mM a b)) (ps_cons (P1_W _) (ps_cons (P1_W _) (ps_cons q8 (ps_cons (P1_W _) ps_nil)))))))))))) ?_
  simp only [mulV, tI_W, dn_Dg] at *
  exact mul_diff_high (m_high a b (g_pos3 q7)) q8
theorem mul_leaf4 (a b : Int)  (q1 : (decide (g0 (mM a b / MM) > 0)) = false) (q3 : (decide (g1 (mM a b / MM) > 0)) = false) (q5 : (decide (g2 (mM a b / MM) > 0)) = false) (q7 : (decide (g3 (mM a b / MM) > 0)) = false) (q9 : (decide (g4 (mM a b / MM) > 0)) = true) (q10 : ((decide (tI (W a) < 0)) == (decide (tI (W b) < 0))) = true) : Gives P 32 #[W a, W b] (mulV [W a, W b]) := by
  refine gives_of_run mo (mul_run4 a b) (ps_cons (P1_W _) (ps_cons (P1_W _) (ps_cons (timesP_D _ _) (ps_cons q1 (ps_cons q3 (ps_cons q5 (ps_cons q7 (ps_cons q9 (ps_cons (D1P_g (mM a b)) (ps_cons (P1_W _) (ps_cons (P1_W _) (ps_cons q10 ps_nil)))))))))))) ?_
  simp only [mulV, tI_W, dn_Dg] at *
  exact mul_same_high (m_high a b (g_pos4 q9)) q10
theorem mul_leaf14 (a b : Int)  (q1 : (decide (g0 (mM a b / MM) > 0)) = false) (q3 : (decide (g1 (mM a b / MM) > 0)) = false) (q5 : (decide (g2 (mM a b / MM) > 0)) = false) (q7 : (decide (g3 (mM a b / MM) > 0)) = false) (q9 : (decide (g4 (mM a b / MM) > 0)) = true) (q10 : ((decide (tI (W a) < 0)) == (decide (tI (W b) < 0))) = false) : Gives P 32 #[W a, W b] (mulV [W a, W b]) := by
  refine gives_of_run mo (mul_run14 a b) (ps_cons (P1_W _) (ps_cons (P1_W _) (ps_cons (timesP_D _ _) (ps_cons q1 (ps_cons q3 (ps_cons q5 (ps_cons q7 (ps_cons q9 (ps_cons (D1P_g (mM a b)) (ps_cons (P1_W _) (ps_cons (P1_W _) (ps_cons q10 (ps_cons (P1_W _) ps_nil))))))))))))) ?_
  simp only [mulV, tI_W, dn_Dg] at *
  exact mul_diff_high (m_high a b (g_pos4 q9)) q10
theorem mul_leaf5 (a b : Int)  (q1 : (decide (g0 (mM a b / MM) > 0)) = false) (q3 : (decide (g1 (mM a b / MM) > 0)) = false) (q5 : (decide (g2 (mM a b / MM) > 0)) = false) (q7 : (decide (g3 (mM a b / MM) > 0)) = false) (q9 : (decide (g4 (mM a b / MM) > 0)) = false) (q11 : (decide (g5 (mM a b / MM) > 0)) = true) (q12 : ((decide (tI (W a) < 0)) == (decide (tI (W b) < 0))) = true) : Gives P 32 #[W a, W b] (mulV [W a, W b]) := by
  refine gives_of_run mo (mul_run5 a b) (ps_cons (P1_W _) (ps_cons (P1_W _) (ps_cons (timesP_D _ _) (ps_cons q1 (ps_cons q3 (ps_cons q5 (ps_cons q7 (ps_cons q9 (ps_cons q11 (ps_cons (D1P_g (mM a b)) (ps_cons (P1_W _) (ps_cons (P1_W _) (ps_cons q12 ps_nil))))))))))))) ?_
  simp only [mulV, tI_W, dn_Dg] at *
  exact mul_same_high (m_high a b (g_pos5 q11)) q12
theorem mul_leaf13 (a b : Int)  (q1 : (decide (g0 (mM a b / MM) > 0)) = false) (q3 : (decide (g1 (mM a b / MM) > 0)) = false) (q5 : (decide (g2 (mM a b / MM) > 0)) = false) (q7 : (decide (g3 (mM a b / MM) > 0)) = false) (q9 : (decide (g4 (mM a b / MM) > 0)) = false) (q11 : (decide (g5 (mM a b / MM) > 0)) = true) (q12 : ((decide (tI (W a) < 0)) == (decide (tI (W b) < 0))) = false) : Gives P 32 #[W a, W b] (mulV [W a, W b]) := by
  refine gives_of_run mo (mul_run13 a b) (ps_cons (P1_W _) (ps_cons (P1_W _) (ps_cons (timesP_D _ _) (ps_cons q1 (ps_cons q3 (ps_cons q5 (ps_cons q7 (ps_cons q9 (ps_cons q11 (ps_cons (D1P_g (mM a b)) (ps_cons (P1_W _) (ps_cons (P1_W _) (ps_cons q12 (ps_cons (P1_W _) ps_nil)))))))))))))) ?_
  simp only [mulV, tI_W, dn_Dg] at *
  exact mul_diff_high (m_high a b (g_pos5 q11)) q12
theorem mul_leaf6 (a b : Int)  (q1 : (decide (g0 (mM a b / MM) > 0)) = false) (q3 : (decide (g1 (mM a b / MM) > 0)) = false) (q5 : (decide (g2 (mM a b / MM) > 0)) = false) (q7 : (decide (g3 (mM a b / MM) > 0)) = false) (q9 : (decide (g4 (mM a b / MM) > 0)) = false) (q11 : (decide (g5 (mM a b / MM) > 0)) = false) (q13 : (decide (g6 (mM a b / MM) > 0)) = true) (q14 : ((decide (tI (W a) < 0)) == (decide (tI (W b) < 0))) = true) : Gives P 32 #[W a, W b] (mulV [W a, W b]) := by
  refine gives_of_run mo (mul_run6 a b) (ps_cons (P1_W _) (ps_cons (P1_W _) (ps_cons (timesP_D _ _) (ps_cons q1 (ps_cons q3 (ps_cons q5 (ps_cons q7 (ps_cons q9 (ps_cons q11 (ps_cons q13 (ps_cons (D1P_g (mM a b)) (ps_cons (P1_W _) (ps_cons (P1_W _) (ps_cons q14 ps_nil)))))))))))))) ?_
  simp only [mulV, tI_W, dn_Dg] at *
  exact mul_same_high (m_high a b (g_pos6 q13)) q14
theorem mul_leaf12 (a b : Int)  (q1 : (decide (g0 (mM a b / MM) > 0)) = false) (q3 : (decide (g1 (mM a b / MM) > 0)) = false) (q5 : (decide (g2 (mM a b / MM) > 0)) = false) (q7 : (decide (g3 (mM a b / MM) > 0)) = false) (q9 : (decide (g4 (mM a b / MM) > 0)) = false) (q11 : (decide (g5 (mM a b / MM) > 0)) = false) (q13 : (decide (g6 (mM a b / MM) > 0)) = true) (q14 : ((decide (tI (W a) < 0)) == (decide (tI (W b) < 0))) = false) : Gives P 32 #[W a, W b] (mulV [W a, W b]) := by
  refine gives_of_run mo (mul_run12 a b) (ps_cons (P1_W _) (ps_cons (P1_W _) (ps_cons (timesP_D _ _) (ps_cons q1 (ps_cons q3 (ps_cons q5 (ps_cons q7 (ps_cons q9 (ps_cons q11 (ps_cons q13 (ps_cons (D1P_g (mM a b)) (ps_cons (P1_W _) (ps_cons (P1_W _) (ps_cons q14 (ps_cons (P1_W _) ps_nil))))))))))))))) ?_
  simp only [mulV, tI_W, dn_Dg] at *
  exact mul_diff_high (m_high a b (g_pos6 q13)) q14
theorem mul_leaf7 (a b : Int)  (q1 : (decide (g0 (mM a b / MM) > 0)) = false) (q3 : (decide (g1 (mM a b / MM) > 0)) = false) (q5 : (decide (g2 (mM a b / MM) > 0)) = false) (q7 : (decide (g3 (mM a b / MM) > 0)) = false) (q9 : (decide (g4 (mM a b / MM) > 0)) = false) (q11 : (decide (g5 (mM a b / MM) > 0)) = false) (q13 : (decide (g6 (mM a b / MM) > 0)) = false) (q15 : ((decide (tI (W a) < 0)) == (decide (tI (W b) < 0))) = true) (q16 : (decide (g7 (mM a b / MM) > 0)) = true) : Gives P 32 #[W a, W b] (mulV [W a, W b]) := by
  refine gives_of_run mo (mul_run7 a b) (ps_cons (P1_W _) (ps_cons (P1_W _) (ps_cons (timesP_D _ _) (ps_cons q1 (ps_cons q3 (ps_cons q5 (ps_cons q7 (ps_cons q9 (ps_cons q11 (ps_cons q13 (ps_cons (D1P_g (mM a b)) (ps_cons (P1_W _) (ps_cons (P1_W _) (ps_cons q15 (ps_cons q16 ps_nil))))))))))))))) ?_
  simp only [mulV, tI_W, dn_Dg] at *
  exact mul_same_high (m_high a b (g_pos7 q16)) q15
theorem mul_leaf11 (a b : Int)  (q1 : (decide (g0 (mM a b / MM) > 0)) = false) (q3 : (decide (g1 (mM a b / MM) > 0)) = false) (q5 : (decide (g2 (mM a b / MM) > 0)) = false) (q7 : (decide (g3 (mM a b / MM) > 0)) = false) (q9 : (decide (g4 (mM a b / MM) > 0)) = false) (q11 : (decide (g5 (mM a b / MM) > 0)) = false) (q13 : (decide (g6 (mM a b / MM) > 0)) = false) (q15 : ((decide (tI (W a) < 0)) == (decide (tI (W b) < 0))) = true) (q16 : (decide (g7 (mM a b / MM) > 0)) = false) : Gives P 32 #[W a, W b] (mulV [W a, W b]) := by
  refine gives_of_run mo (mul_run11 a b) (ps_cons (P1_W _) (ps_cons (P1_W _) (ps_cons (timesP_D _ _) (ps_cons q1 (ps_cons q3 (ps_cons q5 (ps_cons q7 (ps_cons q9 (ps_cons q11 (ps_cons q13 (ps_cons (D1P_g (mM a b)) (ps_cons (P1_W _) (ps_cons (P1_W _) (ps_cons q15 (ps_cons q16 (ps_cons (P1_W _) ps_nil)))))))))))))))) ?_
  simp only [mulV, tI_W, dn_Dg] at *
  exact mul_same_low (m_low a b (of_decide_eq_false q1) (of_decide_eq_false q3) (of_decide_eq_false q5) (of_decide_eq_false q7) (of_decide_eq_false q9) (of_decide_eq_false q11) (of_decide_eq_false q13) (of_decide_eq_false q16)) q15
theorem mul_leaf8 (a b : Int)  (q1 : (decide (g0 (mM a b / MM) > 0)) = false) (q3 : (decide (g1 (mM a b / MM) > 0)) = false) (q5 : (decide (g2 (mM a b / MM) > 0)) = false) (q7 : (decide (g3 (mM a b / MM) > 0)) = false) (q9 : (decide (g4 (mM a b / MM) > 0)) = false) (q11 : (decide (g5 (mM a b / MM) > 0)) = false) (q13 : (decide (g6 (mM a b / MM) > 0)) = false) (q15 : ((decide (tI (W a) < 0)) == (decide (tI (W b) < 0))) = false) (q17 : (decide (g7 (mM a b / MM) > 0)) = true) : Gives P 32 #[W a, W b] (mulV [W a, W b]) := by
  refine gives_of_run mo (mul_run8 a b) (ps_cons (P1_W _) (ps_cons (P1_W _) (ps_cons (timesP_D _ _) (ps_cons q1 (ps_cons q3 (ps_cons q5 (ps_cons q7 (ps_cons q9 (ps_cons q11 (ps_cons q13 (ps_cons (D1P_g (mM a b)) (ps_cons (P1_W _) (ps_cons (P1_W _) (ps_cons q15 (ps_cons (P1_W _) (ps_cons q17 ps_nil)))))))))))))))) ?_
  simp only [mulV, tI_W, dn_Dg] at *
  exact mul_diff_high (m_high a b (g_pos7 q17)) q15
theorem mul_leaf9 (a b : Int)  (q1 : (decide (g0 (mM a b / MM) > 0)) = false) (q3 : (decide (g1 (mM a b / MM) > 0)) = false) (q5 : (decide (g2 (mM a b / MM) > 0)) = false) (q7 : (decide (g3 (mM a b / MM) > 0)) = false) (q9 : (decide (g4 (mM a b / MM) > 0)) = false) (q11 : (decide (g5 (mM a b / MM) > 0)) = false) (q13 : (decide (g6 (mM a b / MM) > 0)) = false) (q15 : ((decide (tI (W a) < 0)) == (decide (tI (W b) < 0))) = false) (q17 : (decide (g7 (mM a b / MM) > 0)) = false) (q18 : (!(weq (dn (Dg (mM a b))) 0)) = true) : Gives P 32 #[W a, W b] (mulV [W a, W b]) := by
  refine gives_of_run mo (mul_run9 a b) (ps_cons (P1_W _) (ps_cons (P1_W _) (ps_cons (timesP_D _ _) (ps_cons q1 (ps_cons q3 (ps_cons q5 (ps_cons q7 (ps_cons q9 (ps_cons q11 (ps_cons q13 (ps_cons (D1P_g (mM a b)) (ps_cons (P1_W _) (ps_cons (P1_W _) (ps_cons q15 (ps_cons (P1_W _) (ps_cons q17 (ps_cons q18 (ps_cons (P1_W _) ps_nil)))))))))))))))))) ?_
  simp only [mulV, tI_W, dn_Dg] at *
  exact mul_diff_low (m_low a b (of_decide_eq_false q1) (of_decide_eq_false q3) (of_decide_eq_false q5) (of_decide_eq_false q7) (of_decide_eq_false q9) (of_decide_eq_false q11) (of_decide_eq_false q13) (of_decide_eq_false q17)) q15 q18
theorem mul_leaf10 (a b : Int)  (q1 : (decide (g0 (mM a b / MM) > 0)) = false) (q3 : (decide (g1 (mM a b / MM) > 0)) = false) (q5 : (decide (g2 (mM a b / MM) > 0)) = false) (q7 : (decide (g3 (mM a b / MM) > 0)) = false) (q9 : (decide (g4 (mM a b / MM) > 0)) = false) (q11 : (decide (g5 (mM a b / MM) > 0)) = false) (q13 : (decide (g6 (mM a b / MM) > 0)) = false) (q15 : ((decide (tI (W a) < 0)) == (decide (tI (W b) < 0))) = false) (q17 : (decide (g7 (mM a b / MM) > 0)) = false) (q18 : (!(weq (dn (Dg (mM a b))) 0)) = false) : Gives P 32 #[W a, W b] (mulV [W a, W b]) := by
  refine gives_of_run mo (mul_run10 a b) (ps_cons (P1_W _) (ps_cons (P1_W _) (ps_cons (timesP_D _ _) (ps_cons q1 (ps_cons q3 (ps_cons q5 (ps_cons q7 (ps_cons q9 (ps_cons q11 (ps_cons q13 (ps_cons (D1P_g (mM a b)) (ps_cons (P1_W _) (ps_cons (P1_W _) (ps_cons q15 (ps_cons (P1_W _) (ps_cons q17 (ps_cons q18 ps_nil))))))))))))))))) ?_
  simp only [mulV, tI_W, dn_Dg] at *
  exact mul_diff_zero (m_low a b (of_decide_eq_false q1) (of_decide_eq_false q3) (of_decide_eq_false q5) (of_decide_eq_false q7) (of_decide_eq_false q9) (of_decide_eq_false q11) (of_decide_eq_false q13) (of_decide_eq_false q17)) q15 q18
theorem mul_gives (args : List Value) (h : P2 args) : Gives P 32 args.toArray (mulV args) := by
  unfold P2 at h
  split at h
  · obtain ⟨⟨a, rfl⟩, ⟨b, rfl⟩⟩ := h
    cases q1 : (decide (g0 (mM a b / MM) > 0)) with
    | true =>
      cases q2 : ((decide (tI (W a) < 0)) == (decide (tI (W b) < 0))) with
      | true =>
        exact mul_leaf0 a b  q1 q2
      | false =>
        exact mul_leaf18 a b  q1 q2
    | false =>
      cases q3 : (decide (g1 (mM a b / MM) > 0)) with
      | true =>
        cases q4 : ((decide (tI (W a) < 0)) == (decide (tI (W b) < 0))) with
        | true =>
          exact mul_leaf1 a b  q1 q3 q4
        | false =>
          exact mul_leaf17 a b  q1 q3 q4
      | false =>
        cases q5 : (decide (g2 (mM a b / MM) > 0)) with
        | true =>
          cases q6 : ((decide (tI (W a) < 0)) == (decide (tI (W b) < 0))) with
          | true =>
            exact mul_leaf2 a b  q1 q3 q5 q6
          | false =>
            exact mul_leaf16 a b  q1 q3 q5 q6
        | false =>
          cases q7 : (decide (g3 (mM a b / MM) > 0)) with
          | true =>
            cases q8 : ((decide (tI (W a) < 0)) == (decide (tI (W b) < 0))) with
            | true =>
              exact mul_leaf3 a b  q1 q3 q5 q7 q8
            | false =>
              exact mul_leaf15 a b  q1 q3 q5 q7 q8
          | false =>
            cases q9 : (decide (g4 (mM a b / MM) > 0)) with
            | true =>
              cases q10 : ((decide (tI (W a) < 0)) == (decide (tI (W b) < 0))) with
              | true =>
                exact mul_leaf4 a b  q1 q3 q5 q7 q9 q10
              | false =>
                exact mul_leaf14 a b  q1 q3 q5 q7 q9 q10
            | false =>
              cases q11 : (decide (g5 (mM a b / MM) > 0)) with
              | true =>
                cases q12 : ((decide (tI (W a) < 0)) == (decide (tI (W b) < 0))) with
                | true =>
                  exact mul_leaf5 a b  q1 q3 q5 q7 q9 q11 q12
                | false =>
                  exact mul_leaf13 a b  q1 q3 q5 q7 q9 q11 q12
              | false =>
                cases q13 : (decide (g6 (mM a b / MM) > 0)) with
                | true =>
                  cases q14 : ((decide (tI (W a) < 0)) == (decide (tI (W b) < 0))) with
                  | true =>
                    exact mul_leaf6 a b  q1 q3 q5 q7 q9 q11 q13 q14
                  | false =>
                    exact mul_leaf12 a b  q1 q3 q5 q7 q9 q11 q13 q14
                | false =>
                  cases q15 : ((decide (tI (W a) < 0)) == (decide (tI (W b) < 0))) with
                  | true =>
                    cases q16 : (decide (g7 (mM a b / MM) > 0)) with
                    | true =>
                      exact mul_leaf7 a b  q1 q3 q5 q7 q9 q11 q13 q15 q16
                    | false =>
                      exact mul_leaf11 a b  q1 q3 q5 q7 q9 q11 q13 q15 q16
                  | false =>
                    cases q17 : (decide (g7 (mM a b / MM) > 0)) with
                    | true =>
                      exact mul_leaf8 a b  q1 q3 q5 q7 q9 q11 q13 q15 q17
                    | false =>
                      cases q18 : (!(weq (dn (Dg (mM a b))) 0)) with
                      | true =>
                        exact mul_leaf9 a b  q1 q3 q5 q7 q9 q11 q13 q15 q17 q18
                      | false =>
                        exact mul_leaf10 a b  q1 q3 q5 q7 q9 q11 q13 q15 q17 q18
  · exact h.elim
noncomputable def mul : Ctr P := ⟨32, P2, mulV, mul_gives⟩
noncomputable def refC : List (Ctr P) := [of, int, neg, add, sub, mul, cmp, sign]
end Go.Rd
