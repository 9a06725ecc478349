/-
  Contracts of the document's answer for wide numbers (gyreref02), first part: digits by 2^32.
-/
import Derived.Test.YthadbpnapbmppaaDoorLawA
import Derived.Test.YthadbpnapbmppaaDoorSxc
set_option maxRecDepth 100000
namespace Go.Rd
open Go Go.RowKit Go.Sx Go.Nm Go.Wd Go.Proofs

/-! ### Eight digits -/
abbrev D1 : Int := 4294967296
abbrev D2 : Int := 18446744073709551616
abbrev D3 : Int := 79228162514264337593543950336
abbrev D4 : Int := 340282366920938463463374607431768211456
abbrev D5 : Int := 1461501637330902918203684832716283019655932542976
abbrev D6 : Int := 6277101735386680763835789423207666416102355444464034512896
abbrev D7 : Int := 26959946667150639794667015087019630673637144422540572481103610249216

def g0 (n : Int) : Int := n % D1
def g1 (n : Int) : Int := n / D1 % D1
def g2 (n : Int) : Int := n / D2 % D1
def g3 (n : Int) : Int := n / D3 % D1
def g4 (n : Int) : Int := n / D4 % D1
def g5 (n : Int) : Int := n / D5 % D1
def g6 (n : Int) : Int := n / D6 % D1
def g7 (n : Int) : Int := n / D7 % D1
def agg8 (a b c d e f g h : Int) : Value := .agg #[.int .u64 a, .int .u64 b, .int .u64 c, .int .u64 d, .int .u64 e, .int .u64 f, .int .u64 g, .int .u64 h]
def Dg (n : Int) : Value := agg8 (g0 n) (g1 n) (g2 n) (g3 n) (g4 n) (g5 n) (g6 n) (g7 n)
def Dig (x : Int) : Prop := 0 ≤ x ∧ x < D1

theorem g0_dig (n : Int) : Dig (g0 n) := by unfold Dig g0; simp only [D1]; omega
theorem g1_dig (n : Int) : Dig (g1 n) := by unfold Dig g1; simp only [D1]; omega
theorem g2_dig (n : Int) : Dig (g2 n) := by unfold Dig g2; simp only [D1, D2]; omega
theorem g3_dig (n : Int) : Dig (g3 n) := by unfold Dig g3; simp only [D1, D3]; omega
theorem g4_dig (n : Int) : Dig (g4 n) := by unfold Dig g4; simp only [D1, D4]; omega
theorem g5_dig (n : Int) : Dig (g5 n) := by unfold Dig g5; simp only [D1, D5]; omega
theorem g6_dig (n : Int) : Dig (g6 n) := by unfold Dig g6; simp only [D1, D6]; omega
theorem g7_dig (n : Int) : Dig (g7 n) := by unfold Dig g7; simp only [D1, D7]; omega

/-- The words' halves. -/
theorem g_w0 (n : Int) : w0 n = g0 n + D1 * g1 n := by unfold w0 g0 g1; simp only [BB, D1]; omega
theorem g_w1 (n : Int) : w1 n = g2 n + D1 * g3 n := by unfold w1 g2 g3; simp only [BB, D1, D2, D3]; omega
theorem g_w2 (n : Int) : w2 n = g4 n + D1 * g5 n := by unfold w2 g4 g5; simp only [BB, B2, D1, D4, D5]; omega
theorem g_w3 (n : Int) : w3 n = g6 n + D1 * g7 n := by unfold w3 g6 g7; simp only [BB, B3, D1, D6, D7]; omega
theorem g_sum (n : Int) : g0 n + D1 * g1 n + D2 * g2 n + D3 * g3 n + D4 * g4 n + D5 * g5 n + D6 * g6 n + D7 * g7 n = n % MM := by
  have := words_sum n
  rw [g_w0, g_w1, g_w2, g_w3] at this
  simp only [BB, B2, B3, MM, D1, D2, D3, D4, D5, D6, D7] at *
  omega

theorem Dg_of {a b c d e f g h n : Int} (ha : Dig a) (hb : Dig b) (hc : Dig c) (hd : Dig d) (he : Dig e) (hf : Dig f) (hg : Dig g) (hh : Dig h)
    (hs : (a + D1 * b + D2 * c + D3 * d + D4 * e + D5 * f + D6 * g + D7 * h) % MM = n % MM) : agg8 a b c d e f g h = Dg n := by
  have s := g_sum n
  have i0 := g0_dig n
  have i1 := g1_dig n
  have i2 := g2_dig n
  have i3 := g3_dig n
  have i4 := g4_dig n
  have i5 := g5_dig n
  have i6 := g6_dig n
  have i7 := g7_dig n
  unfold Dig at *
  have e0 : g0 n = a := by simp only [MM, D1, D2, D3, D4, D5, D6, D7] at *; omega
  have e1 : g1 n = b := by simp only [MM, D1, D2, D3, D4, D5, D6, D7] at *; omega
  have e2 : g2 n = c := by simp only [MM, D1, D2, D3, D4, D5, D6, D7] at *; omega
  have e3 : g3 n = d := by simp only [MM, D1, D2, D3, D4, D5, D6, D7] at *; omega
  have e4 : g4 n = e := by simp only [MM, D1, D2, D3, D4, D5, D6, D7] at *; omega
  have e5 : g5 n = f := by simp only [MM, D1, D2, D3, D4, D5, D6, D7] at *; omega
  have e6 : g6 n = g := by simp only [MM, D1, D2, D3, D4, D5, D6, D7] at *; omega
  have e7 : g7 n = h := by simp only [MM, D1, D2, D3, D4, D5, D6, D7] at *; omega
  unfold Dg
  rw [e0, e1, e2, e3, e4, e5, e6, e7]
theorem Dg_congr {m n : Int} (h : m % MM = n % MM) : Dg m = Dg n :=
  Dg_of (g0_dig m) (g1_dig m) (g2_dig m) (g3_dig m) (g4_dig m) (g5_dig m) (g6_dig m) (g7_dig m) (by rw [g_sum]; simp only [MM] at *; omega)

def IsD (v : Value) : Prop := ∃ n, v = Dg n

/-! ### digits, wide, low, not, plus -/
noncomputable def F0 : Env P := ⟨⟨[], []⟩, [], 10, []⟩
def dn (v : Value) : Int :=
  match v with
  | .agg #[.int _ a, .int _ b, .int _ c, .int _ d, .int _ e, .int _ f, .int _ g, .int _ h] => bm (a + D1 * b + D2 * c + D3 * d + D4 * e + D5 * f + D6 * g + D7 * h)
  | _ => 0
theorem dn_Dg (n : Int) : dn (Dg n) = bm n := by
  have : dn (Dg n) = bm (g0 n + D1 * g1 n + D2 * g2 n + D3 * g3 n + D4 * g4 n + D5 * g5 n + D6 * g6 n + D7 * g7 n) := rfl
  rw [this, g_sum]
  exact bm_congr (by simp only [MM]; omega)

def digitsV : List Value → Value
  | [x] => Dg (tI x)
  | _ => undef
theorem tmod_dig {x : Int} (h : 0 ≤ x) : x.tmod 4294967296 = x % D1 := Int.tmod_eq_emod_of_nonneg h
theorem tdiv_dig {x : Int} (h : 0 ≤ x) : x.tdiv 4294967296 = x / D1 := Int.tdiv_eq_ediv_of_nonneg h
theorem wrap_in {x : Int} (h : 0 ≤ x) (h2 : x < BB) : IntKind.u64.wrap x = x := by rw [wrap_u64]; simp only [BB] at *; omega
def D1P : List Value → Prop
  | [x] => IsD x
  | _ => False
theorem D1P_D (n : Int) : D1P [Dg n] := ⟨n, rfl⟩
def wideV : List Value → Value
  | [x] => W (dn x)
  | _ => undef
def notV : List Value → Value
  | [x] => Dg (-1 - dn x)
  | _ => undef
def nt (x : Int) : Int := IntKind.u64.wrap (4294967295 - x)
theorem nt_dig {x : Int} (h : Dig x) : nt x = 4294967295 - x ∧ Dig (4294967295 - x) := by
  unfold Dig at *
  unfold nt
  simp only [D1] at *
  exact ⟨wrap_in (by omega) (by simp only [BB]; omega), by omega, by omega⟩
def plusP : List Value → Prop
  | [x, y, .int .u64 c] => IsD x ∧ IsD y ∧ 0 ≤ c ∧ c ≤ 1
  | _ => False
def plusV : List Value → Value
  | [x, y, .int _ c] => Dg (dn x + dn y + c)
  | _ => undef
def pS (x y c : Int) : Int := IntKind.u64.wrap (IntKind.u64.wrap (x + y) + c)
def pC (x y c : Int) : Int := IntKind.u64.wrap ((pS x y c).tdiv 4294967296)
def pR (x y c : Int) : Int := (pS x y c).tmod 4294967296
def c1 (a0 b0 c : Int) := pC a0 b0 c
theorem p_spec {x y c : Int} (hx : Dig x) (hy : Dig y) (h : 0 ≤ c ∧ c ≤ 1) : pR x y c + D1 * pC x y c = x + y + c ∧ Dig (pR x y c) ∧ 0 ≤ pC x y c ∧ pC x y c ≤ 1 := by
  unfold Dig at *
  have e : pS x y c = x + y + c := by
    unfold pS
    simp only [D1] at *
    rw [wrap_in (x := x + y) (by omega) (by simp only [BB]; omega), wrap_in (by omega) (by simp only [BB]; omega)]
  unfold pR pC
  rw [e, tmod_dig (by simp only [D1] at *; omega), tdiv_dig (by simp only [D1] at *; omega)]
  simp only [D1] at *
  rw [wrap_in (by omega) (by simp only [BB]; omega)]
  omega
end Go.Rd

/-
  Contracts of the document's answer for wide numbers (gyreref02), second part: printed by refB.py.
-/
namespace Go.Rd
open Go Go.RowKit Go.Sx Go.Nm Go.Wd Go.Proofs

noncomputable def F1 : Env P := ⟨⟨[], []⟩, [], 10, []⟩
theorem isD (n : Int) : IsD (Dg n) := ⟨n, rfl⟩
theorem isD_0 : IsD (.agg #[.int .u64 0, .int .u64 0, .int .u64 0, .int .u64 0, .int .u64 0, .int .u64 0, .int .u64 0, .int .u64 0]) := ⟨0, by kernel_rfl⟩
theorem dn_0 : dn (.agg #[.int .u64 0, .int .u64 0, .int .u64 0, .int .u64 0, .int .u64 0, .int .u64 0, .int .u64 0, .int .u64 0]) = 0 := by kernel_rfl
theorem dW (n : Int) : W (bm n) = W n := W_congr (bm_mod n)

/-! ### Neg -/
theorem neg_W (a : Int) : W (bm (bm (-1 - bm (bm a)) + 0 + 1)) = W (-bm a) := by
  rw [bm_in (bm_range a), Int.add_zero, dW]
  refine W_congr ?_
  have := bm_mod (-1 - bm a)
  simp only [MM] at *
  omega
theorem neg_over1 {x : Int} (hx : InR x) (h : decide (x < 0) = true) : decide (bm (-x) < 0) = !inRB (-x) := by
  have hm := bm_mod (-x)
  have hr := bm_range (-x)
  have h := of_decide_eq_true h
  unfold InR at *
  unfold inRB
  rw [Bool.eq_iff_iff]
  simp only [decide_eq_true_iff, Bool.not_eq_true', Bool.and_eq_false_iff, decide_eq_false_iff_not]
  simp only [MM, HH] at *
  omega
theorem neg_over2 {x : Int} (hx : InR x) (h : decide (x < 0) = false) : false = !inRB (-x) := by
  have h := of_decide_eq_false h
  have : InR (-x) := by unfold InR at *; simp only [HH] at *; omega
  rw [inRB_of this]; rfl
/-! ### Add, Sub -/
theorem add_W (a b : Int) : W (bm (bm (bm a) + bm (bm b) + 0)) = W (bm a + bm b) := by
  rw [bm_in (bm_range a), bm_in (bm_range b), Int.add_zero, dW]
theorem sub_W' (a b : Int) : W (bm (bm (bm a) + bm (-1 - bm (bm b)) + 1)) = W (bm a - bm b) := by
  rw [bm_in (bm_range a), bm_in (bm_range b), dW]
  exact sub_W a b
/-! ### Of, Int -/
theorem of_neg {n : Int} (h : I64 n) (q : decide (n < 0) = true) : (.agg #[.int .u64 (IntKind.u64.wrap n), .int .u64 18446744073709551615, .int .u64 18446744073709551615, .int .u64 18446744073709551615] : Value) = W n := by
  have q := of_decide_eq_true q
  unfold I64 at h
  refine W_of ?_ ?_ ?_ ?_ ?_ ?_ ?_ ?_ ?_ <;> first | (rw [wrap_u64]; simp only [BB, B2, B3, MM]; omega) | (simp only [BB]; omega) | omega
theorem of_pos {n : Int} (h : I64 n) (q : decide (n < 0) = false) : (.agg #[.int .u64 (IntKind.u64.wrap n), .int .u64 0, .int .u64 0, .int .u64 0] : Value) = W n := by
  have q := of_decide_eq_false q
  unfold I64 at h
  refine W_of ?_ ?_ ?_ ?_ ?_ ?_ ?_ ?_ ?_ <;> first | (rw [wrap_u64]; simp only [BB, B2, B3, MM]; omega) | (simp only [BB]; omega) | omega
noncomputable def F2 : Env P := ⟨⟨[], []⟩, [], 10, []⟩
theorem weq_comm (m n : Int) : weq m n = weq n m := by rw [weq_eq, weq_eq, decide_eq_decide]; exact eq_comm
/-! ### size -/
def absI (n : Int) : Int := if n < 0 then -n else n
def sizeV : List Value → Value
  | [x] => Dg (absI (tI x))
  | _ => undef
/-! ### Cmp, Sign -/
theorem bm_w (n : Int) : bm n = w0 n + BB * w1 n + B2 * w2 n + B3 * w3 n - (if bm n < 0 then MM else 0) := by
  have e := words_sum n
  have hm := bm_mod n
  have hr := bm_range n
  unfold InR at hr
  simp only [BB, B2, B3, MM, HH] at *
  split <;> omega
noncomputable def F3 : Env P := ⟨⟨[], []⟩, [], 10, []⟩
end Go.Rd

/-
  Contracts of the document's answer for wide numbers (gyreref02), third part: times.
-/
namespace Go.Rd
open Go Go.RowKit Go.Sx Go.Nm Go.Wd Go.Proofs

/-! ### Lists of digits -/
def val : List Int → Int
  | [] => 0
  | d :: r => d + D1 * val r
def allDig : List Int → Prop
  | [] => True
  | d :: r => Dig d ∧ allDig r
theorem val_nonneg : ∀ {l : List Int}, allDig l → 0 ≤ val l
  | [], _ => Int.le_refl _
  | d :: r, h => by
    have := val_nonneg h.2
    have hd := h.1.1
    simp only [val, D1]
    omega
theorem val_append : ∀ (p s : List Int), val (p ++ s) = val p + D1 ^ p.length * val s
  | [], s => by simp [val]
  | d :: r, s => by
    simp only [List.cons_append, val, val_append r s, List.length_cons, Int.pow_succ]
    grind
theorem val_lt : ∀ {l : List Int}, allDig l → val l < D1 ^ l.length
  | [], _ => by simp [val]
  | d :: r, h => by
    have := val_lt h.2
    have hd := h.1.2
    simp only [val, List.length_cons, Int.pow_succ]
    have : val r + 1 ≤ D1 ^ r.length := by omega
    have : D1 * (val r + 1) ≤ D1 * D1 ^ r.length := Int.mul_le_mul_of_nonneg_left this (by decide)
    have e : D1 ^ r.length * D1 = D1 * D1 ^ r.length := Int.mul_comm ..
    rw [e]
    have e2 : D1 * (val r + 1) = D1 * val r + D1 := by grind
    rw [e2] at this
    omega
theorem val_inj : ∀ {l s : List Int}, allDig l → allDig s → l.length = s.length → val l = val s → l = s
  | [], [], _, _, _, _ => rfl
  | d :: r, e :: t, hl, hs, hn, hv => by
    simp only [val] at hv
    have h1 := hl.1
    have h2 := hs.1
    unfold Dig at h1 h2
    simp only [D1] at *
    have hd : d = e := by omega
    have hr : val r = val t := by omega
    rw [hd, val_inj hl.2 hs.2 (by simpa using hn) hr]
  | [], _ :: _, _, _, h, _ => by simp at h
  | _ :: _, [], _, _, h, _ => by simp at h
theorem allDig_append {p s : List Int} : allDig (p ++ s) ↔ allDig p ∧ allDig s := by
  induction p with
  | nil => simp [allDig]
  | cons d r ih => simp only [List.cons_append, allDig, ih, and_assoc]
theorem allDig_take : ∀ {l : List Int} (i : Nat), allDig l → allDig (l.take i)
  | _, 0, _ => by simp [allDig]
  | [], _ + 1, _ => by simp [allDig]
  | d :: r, i + 1, h => ⟨h.1, allDig_take i h.2⟩

/-! ### A row of the product -/
def rS (o a b c : Int) : Int := IntKind.u64.wrap (IntKind.u64.wrap (o + IntKind.u64.wrap (a * b)) + c)
def rR (o a b c : Int) : Int := (rS o a b c).tmod 4294967296
def rC (o a b c : Int) : Int := IntKind.u64.wrap ((rS o a b c).tdiv 4294967296)
def row (a : Int) : List Int → List Int → Int → List Int
  | o :: os, b :: bs, c => rR o a b c :: row a os bs (rC o a b c)
  | _, _, c => [c]
theorem r_spec {o a b c : Int} (ho : Dig o) (ha : Dig a) (hb : Dig b) (hc : Dig c) : rR o a b c + D1 * rC o a b c = o + a * b + c ∧ Dig (rR o a b c) ∧ Dig (rC o a b c) := by
  have h0 : 0 ≤ a * b := Int.mul_nonneg ha.1 hb.1
  have h1 : a * b ≤ 4294967295 * 4294967295 := by
    unfold Dig at ha hb
    simp only [D1] at *
    exact Int.mul_le_mul (by omega) (by omega) hb.1 (by decide)
  unfold Dig at ho hc
  have e : rS o a b c = o + a * b + c := by
    unfold rS
    simp only [D1] at *
    rw [wrap_in (x := a * b) h0 (by simp only [BB]; omega), wrap_in (x := o + a * b) (by omega) (by simp only [BB]; omega), wrap_in (by omega) (by simp only [BB]; omega)]
  unfold rR rC
  unfold Dig
  rw [e, tmod_dig (by simp only [D1] at *; omega), tdiv_dig (by simp only [D1] at *; omega)]
  simp only [D1] at *
  rw [wrap_in (by omega) (by simp only [BB]; omega)]
  omega
theorem row_spec {a : Int} (ha : Dig a) : ∀ {os bs : List Int} {c : Int}, os.length = bs.length → allDig os → allDig bs → Dig c →
    val (row a os bs c) = val os + a * val bs + c ∧ allDig (row a os bs c) ∧ (row a os bs c).length = os.length + 1
  | [], [], c, _, _, _, hc => ⟨by simp [row, val], ⟨hc, trivial⟩, rfl⟩
  | o :: os, b :: bs, c, hl, ho, hb, hc => by
    obtain ⟨e1, e2, e3⟩ := r_spec ho.1 ha hb.1 hc
    obtain ⟨i1, i2, i3⟩ := row_spec ha (by simpa using hl) ho.2 hb.2 e3
    refine ⟨?_, ⟨e2, i2⟩, by simp [row, i3]⟩
    simp only [row, val, i1]
    grind
  | [], _ :: _, _, h, _, _, _ => by simp at h
  | _ :: _, [], _, h, _, _, _ => by simp at h

/-- A row is added i places up. -/
theorem row_at {a : Int} {p w r bs : List Int} {z : Int} (ha : Dig a) (hl : allDig (p ++ (w ++ z :: r))) (hb : allDig bs) (hw : w.length = bs.length) (hlt : val (p ++ (w ++ z :: r)) < D1 ^ (p ++ w).length) :
    val (p ++ (row a w bs 0 ++ r)) = val (p ++ (w ++ z :: r)) + D1 ^ p.length * (a * val bs) ∧ allDig (p ++ (row a w bs 0 ++ r)) := by
  obtain ⟨h1, h2⟩ := allDig_append.1 hl
  obtain ⟨h3, h4⟩ := allDig_append.1 h2
  obtain ⟨e1, e2, e3⟩ := row_spec ha hw h3 hb (c := 0) ⟨Int.le_refl _, by decide⟩
  refine ⟨?_, allDig_append.2 ⟨h1, allDig_append.2 ⟨e2, h4.2⟩⟩⟩
  have hz : z = 0 := by
    rw [← List.append_assoc, val_append] at hlt
    have h5 := val_nonneg (allDig_append.2 ⟨h1, h3⟩)
    have h6 := val_nonneg h4
    have hpos : (0 : Int) < D1 ^ (p ++ w).length := Int.pow_pos (by decide)
    have h7 : val (z :: r) = 0 := by
      by_cases h : 0 < val (z :: r)
      · exfalso
        have : D1 ^ (p ++ w).length * 1 ≤ D1 ^ (p ++ w).length * val (z :: r) := Int.mul_le_mul_of_nonneg_left (by omega) (Int.le_of_lt hpos)
        omega
      · omega
    simp only [val] at h7
    have := val_nonneg h4.2
    have := h4.1.1
    simp only [D1] at *
    omega
  subst hz
  rw [val_append, val_append, val_append, val_append, e1, e3]
  simp only [val, Int.pow_succ]
  grind

/-! ### Sixteen digits -/
def l8 (n : Int) : List Int := [g0 n, g1 n, g2 n, g3 n, g4 n, g5 n, g6 n, g7 n]
theorem l8_dig (n : Int) : allDig (l8 n) := ⟨g0_dig n, g1_dig n, g2_dig n, g3_dig n, g4_dig n, g5_dig n, g6_dig n, g7_dig n, trivial⟩
theorem l8_val (n : Int) : val (l8 n) = n % MM := by
  rw [← g_sum]
  simp only [l8, val, D1, D2, D3, D4, D5, D6, D7]
  omega
def timesP : List Value → Prop
  | [x, y] => IsD x ∧ IsD y
  | _ => False
noncomputable def F4 : Env P := ⟨⟨[], []⟩, [], 10, []⟩
def tInv (xs ys : List Int) (g : Nat × List Int) : Prop := g.1 ≤ 8 ∧ g.2.length = 16 ∧ allDig g.2 ∧ val g.2 = val (xs.take g.1) * val ys

theorem mul_lt {x y A B : Int} (hx : 0 ≤ x) (hxA : x < A) (hyB : y < B) (hB : 0 < B) : x * y < A * B := by
  have h1 : x * y ≤ x * B := Int.mul_le_mul_of_nonneg_left (by omega) hx
  have h2 : x * B < A * B := Int.mul_lt_mul_of_pos_right hxA hB
  omega

theorem t_next {xs p w r ys : List Int} {z a : Int} {k : Nat} (hp : p.length = k) (hw : w.length = 8) (hy : ys.length = 8) (hr : r.length + k = 7) (hx : xs.take (k + 1) = xs.take k ++ [a]) (htk : (xs.take k).length = k)
    (hxd : allDig xs) (hyd : allDig ys) (h : tInv xs ys (k, p ++ (w ++ z :: r))) : tInv xs ys (k + 1, p ++ (row a w ys 0 ++ r)) := by
  obtain ⟨h1, h2, h3, h4⟩ := h
  have ha : Dig a := by
    have := allDig_take (k + 1) hxd
    rw [hx] at this
    exact (allDig_append.1 this).2.1
  have hlt : val (p ++ (w ++ z :: r)) < D1 ^ (p ++ w).length := by
    simp only at h4
    rw [h4, List.length_append, hp, hw, Int.pow_add]
    have q1 := val_lt (allDig_take k hxd)
    have q2 := val_lt hyd
    rw [htk] at q1
    rw [hy] at q2
    exact mul_lt (val_nonneg (allDig_take k hxd)) q1 q2 (by decide)
  obtain ⟨e1, e2⟩ := row_at ha h3 hyd (hw.trans hy.symm) hlt
  have hd := row_spec ha (c := 0) (hw.trans hy.symm) (allDig_append.1 (allDig_append.1 h3).2).1 hyd ⟨Int.le_refl _, by decide⟩
  refine ⟨by simp only; omega, ?_, e2, ?_⟩
  · simp only [List.length_append, hd.2.2, hp, hw]
    omega
  · simp only at h4 ⊢
    rw [e1, h4, hx, val_append, htk, hp]
    simp only [val]
    grind

theorem t_same {xs l ys : List Int} {a : Int} {k : Nat} (hk : k < 8) (hx : xs.take (k + 1) = xs.take k ++ [a]) (ha : a = 0) (h : tInv xs ys (k, l)) : tInv xs ys (k + 1, l) := by
  obtain ⟨h1, h2, h3, h4⟩ := h
  refine ⟨by simp only; omega, h2, h3, ?_⟩
  simp only at h4 ⊢
  rw [hx, val_append, ha]
  simp only [val]
  rw [h4]
  grind

def tOut (n : Int) : List Int := l8 n ++ l8 (n / MM)
theorem tOut_of {l : List Int} {n : Int} (hl : allDig l) (hn : l.length = 16) (hv : val l = n) (h0 : 0 ≤ n) (h1 : n < MM * MM) : l = tOut n := by
  refine val_inj hl (allDig_append.2 ⟨l8_dig _, l8_dig _⟩) (by simpa [l8, tOut] using hn) ?_
  rw [tOut, val_append, l8_val, l8_val, hv]
  have e : D1 ^ (l8 n).length = MM := by show D1 ^ 8 = MM; decide
  rw [e]
  simp only [MM] at *
  omega
end Go.Rd

/-
  Contracts of the document's answer for wide numbers (gyreref02), fourth part: Mul. The ways are printed by refD.py.
-/
namespace Go.Rd
open Go Go.RowKit Go.Sx Go.Nm Go.Wd Go.Proofs

def mM (a b : Int) : Int := (dn (Dg (absI (tI (W a)))) % MM) * (dn (Dg (absI (tI (W b)))) % MM)
theorem absI_range {x : Int} (h : InR x) : 0 ≤ absI x ∧ absI x ≤ HH := by
  unfold InR at h
  unfold absI
  simp only [HH] at *
  split <;> omega
theorem mM_eq (a b : Int) : mM a b = absI (bm a) * absI (bm b) := by
  have h1 := absI_range (bm_range a)
  have h2 := absI_range (bm_range b)
  unfold mM
  rw [tI_W, tI_W, dn_Dg, dn_Dg, bm_mod, bm_mod, Int.emod_eq_of_lt h1.1 (by simp only [HH, MM] at *; omega), Int.emod_eq_of_lt h2.1 (by simp only [HH, MM] at *; omega)]
theorem mM_range (a b : Int) : 0 ≤ mM a b ∧ mM a b < MM * MM := by
  have h1 := absI_range (bm_range a)
  have h2 := absI_range (bm_range b)
  rw [mM_eq]
  exact ⟨Int.mul_nonneg h1.1 h2.1, mul_lt h1.1 (by simp only [HH, MM] at *; omega) (by simp only [HH, MM] at *; omega) (by decide)⟩
theorem m_same {a b : Int} (h : (decide (bm a < 0) == decide (bm b < 0)) = true) : bm a * bm b = mM a b := by
  rw [mM_eq]
  rw [beq_iff_eq, decide_eq_decide] at h
  unfold absI
  by_cases ha : bm a < 0
  · rw [if_pos ha, if_pos (h.1 ha)]; grind
  · rw [if_neg ha, if_neg (fun hb => ha (h.2 hb))]
theorem m_diff {a b : Int} (h : (decide (bm a < 0) == decide (bm b < 0)) = false) : bm a * bm b = -mM a b := by
  rw [mM_eq]
  rw [beq_eq_false_iff_ne, ne_eq, decide_eq_decide] at h
  unfold absI
  by_cases ha : bm a < 0
  · by_cases hb : bm b < 0
    · exact absurd ⟨fun _ => hb, fun _ => ha⟩ h
    · rw [if_pos ha, if_neg hb]; grind
  · by_cases hb : bm b < 0
    · rw [if_neg ha, if_pos hb]; grind
    · exact absurd ⟨fun h => absurd h ha, fun h => absurd h hb⟩ h
theorem m_high (a b : Int) (h : mM a b / MM ≠ 0) : MM ≤ mM a b := by
  have := (mM_range a b).1
  simp only [MM] at *
  omega
theorem m_low (a b : Int) (h0 : ¬ g0 (mM a b / MM) > 0) (h1 : ¬ g1 (mM a b / MM) > 0) (h2 : ¬ g2 (mM a b / MM) > 0) (h3 : ¬ g3 (mM a b / MM) > 0) (h4 : ¬ g4 (mM a b / MM) > 0) (h5 : ¬ g5 (mM a b / MM) > 0) (h6 : ¬ g6 (mM a b / MM) > 0)
    (h7 : ¬ g7 (mM a b / MM) > 0) : mM a b < MM := by
  have s := g_sum (mM a b / MM)
  have r := mM_range a b
  have i0 := (g0_dig (mM a b / MM)).1
  have i1 := (g1_dig (mM a b / MM)).1
  have i2 := (g2_dig (mM a b / MM)).1
  have i3 := (g3_dig (mM a b / MM)).1
  have i4 := (g4_dig (mM a b / MM)).1
  have i5 := (g5_dig (mM a b / MM)).1
  have i6 := (g6_dig (mM a b / MM)).1
  have i7 := (g7_dig (mM a b / MM)).1
  simp only [MM, D1, D2, D3, D4, D5, D6, D7] at *
  omega
theorem g_pos0 {m : Int} (h : decide (g0 m > 0) = true) : m ≠ 0 := by
  intro e
  rw [e] at h
  exact absurd h (by decide)
theorem g_pos1 {m : Int} (h : decide (g1 m > 0) = true) : m ≠ 0 := by
  intro e
  rw [e] at h
  exact absurd h (by decide)
theorem g_pos2 {m : Int} (h : decide (g2 m > 0) = true) : m ≠ 0 := by
  intro e
  rw [e] at h
  exact absurd h (by decide)
theorem g_pos3 {m : Int} (h : decide (g3 m > 0) = true) : m ≠ 0 := by
  intro e
  rw [e] at h
  exact absurd h (by decide)
theorem g_pos4 {m : Int} (h : decide (g4 m > 0) = true) : m ≠ 0 := by
  intro e
  rw [e] at h
  exact absurd h (by decide)
theorem g_pos5 {m : Int} (h : decide (g5 m > 0) = true) : m ≠ 0 := by
  intro e
  rw [e] at h
  exact absurd h (by decide)
theorem g_pos6 {m : Int} (h : decide (g6 m > 0) = true) : m ≠ 0 := by
  intro e
  rw [e] at h
  exact absurd h (by decide)
theorem g_pos7 {m : Int} (h : decide (g7 m > 0) = true) : m ≠ 0 := by
  intro e
  rw [e] at h
  exact absurd h (by decide)

theorem timesP_D (m n : Int) : timesP [Dg m, Dg n] := ⟨⟨m, rfl⟩, ⟨n, rfl⟩⟩
theorem WW (m : Int) : W (bm m) = W m := W_congr (bm_mod m)
theorem Wn (m : Int) : W (-bm (bm m)) = W (-m) := W_congr (by
  have h1 := bm_mod m
  rw [bm_in (bm_range m)]
  simp only [MM] at *
  omega)
theorem out_of {x : Int} (h : ¬ InR x) : true = !inRB x := by rw [inRB_not.2 h]; rfl
theorem mul_same_high {a b : Int} (h : MM ≤ mM a b) (q : (decide (bm a < 0) == decide (bm b < 0)) = true) : Value.tuple #[W (bm (mM a b)), .bool true] = .tuple #[W (bm a * bm b), .bool (!inRB (bm a * bm b))] := by
  rw [m_same q, WW, ← out_of (by unfold InR; simp only [MM, HH] at *; omega)]
theorem mul_diff_high {a b : Int} (h : MM ≤ mM a b) (q : (decide (bm a < 0) == decide (bm b < 0)) = false) : Value.tuple #[W (-bm (bm (mM a b))), .bool true] = .tuple #[W (bm a * bm b), .bool (!inRB (bm a * bm b))] := by
  rw [m_diff q, Wn, ← out_of (by unfold InR; simp only [MM, HH] at *; omega)]
theorem mul_same_low {a b : Int} (h : mM a b < MM) (q : (decide (bm a < 0) == decide (bm b < 0)) = true) :
    Value.tuple #[W (bm (mM a b)), .bool (decide (bm (bm (mM a b)) < 0))] = .tuple #[W (bm a * bm b), .bool (!inRB (bm a * bm b))] := by
  rw [m_same q, WW, bm_in (bm_range _)]
  have e : decide (bm (mM a b) < 0) = !inRB (mM a b) := by
    have r := (mM_range a b).1
    have h1 := bm_mod (mM a b)
    have h2 := bm_range (mM a b)
    unfold InR at h2
    unfold inRB
    rw [Bool.eq_iff_iff]
    simp only [decide_eq_true_iff, Bool.not_eq_true', Bool.and_eq_false_iff, decide_eq_false_iff_not]
    simp only [MM, HH] at *
    omega
  rw [e]
theorem mul_diff_low {a b : Int} (h : mM a b < MM) (q : (decide (bm a < 0) == decide (bm b < 0)) = false) (z : (!(weq (bm (mM a b)) 0)) = true) :
    Value.tuple #[W (-bm (bm (mM a b))), .bool (!(decide (bm (-bm (bm (mM a b))) < 0)))] = .tuple #[W (bm a * bm b), .bool (!inRB (bm a * bm b))] := by
  rw [m_diff q, Wn]
  have e : decide (bm (-bm (bm (mM a b))) < 0) = inRB (-mM a b) := by
    have r := (mM_range a b).1
    have h1 := bm_mod (mM a b)
    have h2 := bm_range (mM a b)
    rw [bm_in h2]
    have h3 := bm_mod (-bm (mM a b))
    have h4 := bm_range (-bm (mM a b))
    rw [weq_eq] at z
    unfold InR at h2 h4
    unfold inRB
    rw [Bool.eq_iff_iff]
    simp only [decide_eq_true_iff, Bool.not_eq_true', Bool.and_eq_true, decide_eq_false_iff_not] at *
    simp only [MM, HH] at *
    omega
  rw [e]
theorem mul_diff_zero {a b : Int} (h : mM a b < MM) (q : (decide (bm a < 0) == decide (bm b < 0)) = false) (z : (!(weq (bm (mM a b)) 0)) = false) :
    Value.tuple #[W (-bm (bm (mM a b))), .bool false] = .tuple #[W (bm a * bm b), .bool (!inRB (bm a * bm b))] := by
  have e : mM a b = 0 := by
    have r := (mM_range a b).1
    have h1 := bm_mod (mM a b)
    rw [weq_eq] at z
    simp only [Bool.not_eq_false', decide_eq_true_iff] at z
    simp only [MM] at *
    omega
  rw [m_diff q, Wn, e]
  rfl
noncomputable def F6 : Env P := ⟨⟨[], []⟩, [], 10, []⟩
end Go.Rd
