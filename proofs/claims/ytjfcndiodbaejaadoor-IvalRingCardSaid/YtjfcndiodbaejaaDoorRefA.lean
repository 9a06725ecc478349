/-
  Contracts of the document's answer for wide numbers (gyreref02), first part: digits by 2^32.
-/
import Derived.Test.YtjfcndiodbaejaaDoorLawA
import Derived.Test.YtjfcndiodbaejaaDoorSxJ
set_option maxRecDepth 100000
namespace Go.Rd
open Go Go.RowKit Go.Sx Go.Nm Go.Wd Go.Proofs

/-! ### Eight digits -/
abbrev D1 : Int := 4294967296
abbrev D2 : Int := 18446744073709551616
abbrev D3 : Int := 79228162514264337593543950336
abbrev D4 : Int := 340282366920938463463374607431768211456
abbrev D5 : Int := 1461501637330902918203684832716283019655932542976
abbrev D6 : Int := 6277101735386680763835789423207666416102355444464034512896
abbrev D7 : Int := 26959946667150639794667015087019630673637144422540572481103610249216

def g0 (n : Int) : Int := n % D1
def g1 (n : Int) : Int := n / D1 % D1
def g2 (n : Int) : Int := n / D2 % D1
def g3 (n : Int) : Int := n / D3 % D1
def g4 (n : Int) : Int := n / D4 % D1
def g5 (n : Int) : Int := n / D5 % D1
def g6 (n : Int) : Int := n / D6 % D1
def g7 (n : Int) : Int := n / D7 % D1
def agg8 (a b c d e f g h : Int) : Value := .agg #[.int .u64 a, .int .u64 b, .int .u64 c, .int .u64 d, .int .u64 e, .int .u64 f, .int .u64 g, .int .u64 h]
def Dg (n : Int) : Value := agg8 (g0 n) (g1 n) (g2 n) (g3 n) (g4 n) (g5 n) (g6 n) (g7 n)
def Dig (x : Int) : Prop := 0 ≤ x ∧ x < D1

theorem g0_dig (n : Int) : Dig (g0 n) := by unfold Dig g0; simp only [D1]; omega
theorem g1_dig (n : Int) : Dig (g1 n) := by unfold Dig g1; simp only [D1]; omega
theorem g2_dig (n : Int) : Dig (g2 n) := by unfold Dig g2; simp only [D1, D2]; omega
theorem g3_dig (n : Int) : Dig (g3 n) := by unfold Dig g3; simp only [D1, D3]; omega
theorem g4_dig (n : Int) : Dig (g4 n) := by unfold Dig g4; simp only [D1, D4]; omega
theorem g5_dig (n : Int) : Dig (g5 n) := by unfold Dig g5; simp only [D1, D5]; omega
theorem g6_dig (n : Int) : Dig (g6 n) := by unfold Dig g6; simp only [D1, D6]; omega
theorem g7_dig (n : Int) : Dig (g7 n) := by unfold Dig g7; simp only [D1, D7]; omega

/-- The words' halves. -/
theorem g_w0 (n : Int) : w0 n = g0 n + D1 * g1 n := by unfold w0 g0 g1; simp only [BB, D1]; omega
theorem g_w1 (n : Int) : w1 n = g2 n + D1 * g3 n := by unfold w1 g2 g3; simp only [BB, D1, D2, D3]; omega
theorem g_w2 (n : Int) : w2 n = g4 n + D1 * g5 n := by unfold w2 g4 g5; simp only [BB, B2, D1, D4, D5]; omega
theorem g_w3 (n : Int) : w3 n = g6 n + D1 * g7 n := by unfold w3 g6 g7; simp only [BB, B3, D1, D6, D7]; omega
theorem g_sum (n : Int) : g0 n + D1 * g1 n + D2 * g2 n + D3 * g3 n + D4 * g4 n + D5 * g5 n + D6 * g6 n + D7 * g7 n = n % MM := by
  have := words_sum n
  rw [g_w0, g_w1, g_w2, g_w3] at this
  simp only [BB, B2, B3, MM, D1, D2, D3, D4, D5, D6, D7] at *
  omega

theorem Dg_of {a b c d e f g h n : Int} (ha : Dig a) (hb : Dig b) (hc : Dig c) (hd : Dig d) (he : Dig e) (hf : Dig f) (hg : Dig g) (hh : Dig h)
    (hs : (a + D1 * b + D2 * c + D3 * d + D4 * e + D5 * f + D6 * g + D7 * h) % MM = n % MM) : agg8 a b c d e f g h = Dg n := by
  have s := g_sum n
  have i0 := g0_dig n
  have i1 := g1_dig n
  have i2 := g2_dig n
  have i3 := g3_dig n
  have i4 := g4_dig n
  have i5 := g5_dig n
  have i6 := g6_dig n
  have i7 := g7_dig n
  unfold Dig at *
  have e0 : g0 n = a := by simp only [MM, D1, D2, D3, D4, D5, D6, D7] at *; omega
  have e1 : g1 n = b := by simp only [MM, D1, D2, D3, D4, D5, D6, D7] at *; omega
  have e2 : g2 n = c := by simp only [MM, D1, D2, D3, D4, D5, D6, D7] at *; omega
  have e3 : g3 n = d := by simp only [MM, D1, D2, D3, D4, D5, D6, D7] at *; omega
  have e4 : g4 n = e := by simp only [MM, D1, D2, D3, D4, D5, D6, D7] at *; omega
  have e5 : g5 n = f := by simp only [MM, D1, D2, D3, D4, D5, D6, D7] at *; omega
  have e6 : g6 n = g := by simp only [MM, D1, D2, D3, D4, D5, D6, D7] at *; omega
  have e7 : g7 n = h := by simp only [MM, D1, D2, D3, D4, D5, D6, D7] at *; omega
  unfold Dg
  rw [e0, e1, e2, e3, e4, e5, e6, e7]
theorem Dg_congr {m n : Int} (h : m % MM = n % MM) : Dg m = Dg n :=
  Dg_of (g0_dig m) (g1_dig m) (g2_dig m) (g3_dig m) (g4_dig m) (g5_dig m) (g6_dig m) (g7_dig m) (by rw [g_sum]; simp only [MM] at *; omega)

def IsD (v : Value) : Prop := ∃ n, v = Dg n

/-! ### digits, wide, low, not, plus -/
noncomputable def F0 : Env P := ⟨⟨[], []⟩, [], 10, []⟩
def dn (v : Value) : Int :=
  match v with
  | .agg #[.int _ a, .int _ b, .int _ c, .int _ d, .int _ e, .int _ f, .int _ g, .int _ h] => bm (a + D1 * b + D2 * c + D3 * d + D4 * e + D5 * f + D6 * g + D7 * h)
  | _ => 0
theorem dn_Dg (n : Int) : dn (Dg n) = bm n := by
  have : dn (Dg n) = bm (g0 n + D1 * g1 n + D2 * g2 n + D3 * g3 n + D4 * g4 n + D5 * g5 n + D6 * g6 n + D7 * g7 n) := rfl
  rw [this, g_sum]
  exact bm_congr (by simp only [MM]; omega)

def digitsV : List Value → Value
  | [x] => Dg (tI x)
  | _ => undef
theorem digits_run (a : Int) : runF P F0 1 105 [W a] [] = some (agg8 ((w0 a).tmod 4294967296) (IntKind.u64.wrap ((w0 a).tdiv 4294967296)) ((w1 a).tmod 4294967296) (IntKind.u64.wrap ((w1 a).tdiv 4294967296))
    ((w2 a).tmod 4294967296) (IntKind.u64.wrap ((w2 a).tdiv 4294967296)) ((w3 a).tmod 4294967296) (IntKind.u64.wrap ((w3 a).tdiv 4294967296)), []) := by kernel_rfl
theorem tmod_dig {x : Int} (h : 0 ≤ x) : x.tmod 4294967296 = x % D1 := Int.tmod_eq_emod_of_nonneg h
theorem tdiv_dig {x : Int} (h : 0 ≤ x) : x.tdiv 4294967296 = x / D1 := Int.tdiv_eq_ediv_of_nonneg h
theorem wrap_in {x : Int} (h : 0 ≤ x) (h2 : x < BB) : IntKind.u64.wrap x = x := by rw [wrap_u64]; simp only [BB] at *; omega
theorem digits_gives (args : List Value) (h : P1 args) : Gives P 105 args.toArray (digitsV args) := by
  unfold P1 at h
  split at h
  · obtain ⟨n, rfl⟩ := h
    refine gives_of_run mo (digits_run n) ps_nil ?_
    have r0 := w0_range n
    have r1 := w1_range n
    have r2 := w2_range n
    have r3 := w3_range n
    have s := words_sum n
    have hm := bm_mod n
    simp only [digitsV, tI_W]
    rw [tmod_dig r0.1, tmod_dig r1.1, tmod_dig r2.1, tmod_dig r3.1, tdiv_dig r0.1, tdiv_dig r1.1, tdiv_dig r2.1, tdiv_dig r3.1]
    have q : ∀ {x : Int}, 0 ≤ x ∧ x < BB → IntKind.u64.wrap (x / D1) = x / D1 ∧ Dig (x / D1) ∧ Dig (x % D1) := fun {x} h => by
      unfold Dig
      refine ⟨wrap_in ?_ ?_, ⟨?_, ?_⟩, ?_, ?_⟩ <;> simp only [BB, D1] at * <;> omega
    rw [(q r0).1, (q r1).1, (q r2).1, (q r3).1]
    refine Dg_of (q r0).2.2 (q r0).2.1 (q r1).2.2 (q r1).2.1 (q r2).2.2 (q r2).2.1 (q r3).2.2 (q r3).2.1 ?_
    rw [hm, ← Int.emod_emod_of_dvd n (Int.dvd_refl MM), ← s]
    congr 1
    simp only [BB, B2, B3, D1, D2, D3, D4, D5, D6, D7] at *
    omega
  · exact h.elim
noncomputable def digits : Ctr P := ⟨105, P1, digitsV, digits_gives⟩

def D1P : List Value → Prop
  | [x] => IsD x
  | _ => False
theorem D1P_D (n : Int) : D1P [Dg n] := ⟨n, rfl⟩
def wideV : List Value → Value
  | [x] => W (dn x)
  | _ => undef
theorem wide_run (a b c d e f g h : Int) : runF P F0 1 78 [agg8 a b c d e f g h] [] = some (.agg #[.int .u64 (IntKind.u64.wrap (IntKind.u64.wrap (b * 4294967296) + a)), .int .u64 (IntKind.u64.wrap (IntKind.u64.wrap (d * 4294967296) + c)),
    .int .u64 (IntKind.u64.wrap (IntKind.u64.wrap (f * 4294967296) + e)), .int .u64 (IntKind.u64.wrap (IntKind.u64.wrap (h * 4294967296) + g))], []) := by kernel_rfl
theorem wide_gives (args : List Value) (h : D1P args) : Gives P 78 args.toArray (wideV args) := by
  unfold D1P at h
  split at h
  · obtain ⟨n, rfl⟩ := h
    refine gives_of_run mo (wide_run (g0 n) (g1 n) (g2 n) (g3 n) (g4 n) (g5 n) (g6 n) (g7 n)) ps_nil ?_
    have q : ∀ {x y : Int}, Dig x → Dig y → IntKind.u64.wrap (IntKind.u64.wrap (y * 4294967296) + x) = x + D1 * y := fun {x y} hx hy => by
      unfold Dig at *
      simp only [D1] at *
      rw [wrap_in (x := y * 4294967296) (by omega) (by simp only [BB]; omega), wrap_in (by omega) (by simp only [BB]; omega)]
      omega
    rw [q (g0_dig n) (g1_dig n), q (g2_dig n) (g3_dig n), q (g4_dig n) (g5_dig n), q (g6_dig n) (g7_dig n), ← g_w0, ← g_w1, ← g_w2, ← g_w3]
    show W n = W (dn (Dg n))
    rw [dn_Dg]
    exact W_congr (bm_mod n).symm
  · exact h.elim
noncomputable def wide : Ctr P := ⟨78, D1P, wideV, wide_gives⟩

theorem low_run (a : Int) : runF P F0 1 65 [W a] [] = some (.bool ((w3 a).fdiv (2 ^ 63) == 1), []) := by kernel_rfl
theorem low_gives (args : List Value) (h : P1 args) : Gives P 65 args.toArray (lowV args) := by
  unfold P1 at h
  split at h
  · obtain ⟨n, rfl⟩ := h
    refine gives_of_run mo (low_run n) ps_nil ?_
    simp only [lowV, tI_W]
    congr 1
    have s := words_sum n
    have r0 := w0_range n
    have r1 := w1_range n
    have r2 := w2_range n
    have r3 := w3_range n
    have hm := bm_mod n
    have hr := bm_range n
    unfold InR at hr
    rw [Int.fdiv_eq_ediv_of_nonneg _ (by decide), Bool.eq_iff_iff, beq_iff_eq, decide_eq_true_iff]
    have e : ((2 : Int) ^ 63) = 9223372036854775808 := by decide
    rw [e]
    simp only [BB, B2, B3, MM, HH] at *
    omega
  · exact h.elim
noncomputable def low : Ctr P := ⟨65, P1, lowV, low_gives⟩

def notV : List Value → Value
  | [x] => Dg (-1 - dn x)
  | _ => undef
def nt (x : Int) : Int := IntKind.u64.wrap (4294967295 - x)
theorem not_run (a b c d e f g h : Int) : runF P F0 1 107 [agg8 a b c d e f g h] [] = some (agg8 (nt a) (nt b) (nt c) (nt d) (nt e) (nt f) (nt g) (nt h), []) := by kernel_rfl
theorem nt_dig {x : Int} (h : Dig x) : nt x = 4294967295 - x ∧ Dig (4294967295 - x) := by
  unfold Dig at *
  unfold nt
  simp only [D1] at *
  exact ⟨wrap_in (by omega) (by simp only [BB]; omega), by omega, by omega⟩
theorem not_gives (args : List Value) (h : D1P args) : Gives P 107 args.toArray (notV args) := by
  unfold D1P at h
  split at h
  · obtain ⟨n, rfl⟩ := h
    refine gives_of_run mo (not_run (g0 n) (g1 n) (g2 n) (g3 n) (g4 n) (g5 n) (g6 n) (g7 n)) ps_nil ?_
    have q0 := nt_dig (g0_dig n)
    have q1 := nt_dig (g1_dig n)
    have q2 := nt_dig (g2_dig n)
    have q3 := nt_dig (g3_dig n)
    have q4 := nt_dig (g4_dig n)
    have q5 := nt_dig (g5_dig n)
    have q6 := nt_dig (g6_dig n)
    have q7 := nt_dig (g7_dig n)
    rw [q0.1, q1.1, q2.1, q3.1, q4.1, q5.1, q6.1, q7.1]
    simp only [notV, dn_Dg]
    refine Dg_of q0.2 q1.2 q2.2 q3.2 q4.2 q5.2 q6.2 q7.2 ?_
    have s := g_sum n
    have hm := bm_mod n
    simp only [MM, D1, D2, D3, D4, D5, D6, D7] at *
    omega
  · exact h.elim
noncomputable def not : Ctr P := ⟨107, D1P, notV, not_gives⟩

def plusP : List Value → Prop
  | [x, y, .int .u64 c] => IsD x ∧ IsD y ∧ 0 ≤ c ∧ c ≤ 1
  | _ => False
def plusV : List Value → Value
  | [x, y, .int _ c] => Dg (dn x + dn y + c)
  | _ => undef
def pS (x y c : Int) : Int := IntKind.u64.wrap (IntKind.u64.wrap (x + y) + c)
def pC (x y c : Int) : Int := IntKind.u64.wrap ((pS x y c).tdiv 4294967296)
def pR (x y c : Int) : Int := (pS x y c).tmod 4294967296
def c1 (a0 b0 c : Int) := pC a0 b0 c
theorem plus_run (a0 a1 a2 a3 a4 a5 a6 a7 b0 b1 b2 b3 b4 b5 b6 b7 c : Int) : runF P F0 1 106 [agg8 a0 a1 a2 a3 a4 a5 a6 a7, agg8 b0 b1 b2 b3 b4 b5 b6 b7, .int .u64 c] [] =
    some (agg8 (pR a0 b0 c) (pR a1 b1 (pC a0 b0 c)) (pR a2 b2 (pC a1 b1 (pC a0 b0 c))) (pR a3 b3 (pC a2 b2 (pC a1 b1 (pC a0 b0 c)))) (pR a4 b4 (pC a3 b3 (pC a2 b2 (pC a1 b1 (pC a0 b0 c)))))
      (pR a5 b5 (pC a4 b4 (pC a3 b3 (pC a2 b2 (pC a1 b1 (pC a0 b0 c)))))) (pR a6 b6 (pC a5 b5 (pC a4 b4 (pC a3 b3 (pC a2 b2 (pC a1 b1 (pC a0 b0 c)))))))
      (pR a7 b7 (pC a6 b6 (pC a5 b5 (pC a4 b4 (pC a3 b3 (pC a2 b2 (pC a1 b1 (pC a0 b0 c)))))))), []) := by kernel_rfl
theorem p_spec {x y c : Int} (hx : Dig x) (hy : Dig y) (h : 0 ≤ c ∧ c ≤ 1) : pR x y c + D1 * pC x y c = x + y + c ∧ Dig (pR x y c) ∧ 0 ≤ pC x y c ∧ pC x y c ≤ 1 := by
  unfold Dig at *
  have e : pS x y c = x + y + c := by
    unfold pS
    simp only [D1] at *
    rw [wrap_in (x := x + y) (by omega) (by simp only [BB]; omega), wrap_in (by omega) (by simp only [BB]; omega)]
  unfold pR pC
  rw [e, tmod_dig (by simp only [D1] at *; omega), tdiv_dig (by simp only [D1] at *; omega)]
  simp only [D1] at *
  rw [wrap_in (by omega) (by simp only [BB]; omega)]
  omega
theorem plus_gives (args : List Value) (h : plusP args) : Gives P 106 args.toArray (plusV args) := by
  unfold plusP at h
  split at h
  · rename_i x y c
    obtain ⟨⟨m, rfl⟩, ⟨n, rfl⟩, hc0, hc1⟩ := h
    refine gives_of_run mo (plus_run (g0 m) (g1 m) (g2 m) (g3 m) (g4 m) (g5 m) (g6 m) (g7 m) (g0 n) (g1 n) (g2 n) (g3 n) (g4 n) (g5 n) (g6 n) (g7 n) c) ps_nil ?_
    have p0 := p_spec (g0_dig m) (g0_dig n) ⟨hc0, hc1⟩
    have p1 := p_spec (g1_dig m) (g1_dig n) p0.2.2
    have p2 := p_spec (g2_dig m) (g2_dig n) p1.2.2
    have p3 := p_spec (g3_dig m) (g3_dig n) p2.2.2
    have p4 := p_spec (g4_dig m) (g4_dig n) p3.2.2
    have p5 := p_spec (g5_dig m) (g5_dig n) p4.2.2
    have p6 := p_spec (g6_dig m) (g6_dig n) p5.2.2
    have p7 := p_spec (g7_dig m) (g7_dig n) p6.2.2
    simp only [plusV, dn_Dg]
    refine Dg_of p0.2.1 p1.2.1 p2.2.1 p3.2.1 p4.2.1 p5.2.1 p6.2.1 p7.2.1 ?_
    have s := g_sum m
    have t := g_sum n
    have hm := bm_mod m
    have hn := bm_mod n
    have e0 := p0.1
    have e1 := p1.1
    have e2 := p2.1
    have e3 := p3.1
    have e4 := p4.1
    have e5 := p5.1
    have e6 := p6.1
    have e7 := p7.1
    have z := p7.2.2
    clear p0 p1 p2 p3 p4 p5 p6 p7
    simp only [MM, D1, D2, D3, D4, D5, D6, D7] at *
    omega
  · exact h.elim
noncomputable def plus : Ctr P := ⟨106, plusP, plusV, plus_gives⟩
end Go.Rd
