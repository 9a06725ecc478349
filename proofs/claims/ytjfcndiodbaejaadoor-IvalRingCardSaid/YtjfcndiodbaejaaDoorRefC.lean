/-
  Contracts of the document's answer for wide numbers (gyreref02), third part: times.
-/
import Derived.Test.YtjfcndiodbaejaaDoorRefB
set_option maxRecDepth 100000
namespace Go.Rd
open Go Go.RowKit Go.Sx Go.Nm Go.Wd Go.Proofs

/-! ### Lists of digits -/
def val : List Int → Int
  | [] => 0
  | d :: r => d + D1 * val r
def allDig : List Int → Prop
  | [] => True
  | d :: r => Dig d ∧ allDig r
theorem val_nonneg : ∀ {l : List Int}, allDig l → 0 ≤ val l
  | [], _ => Int.le_refl _
  | d :: r, h => by
    have := val_nonneg h.2
    have hd := h.1.1
    simp only [val, D1]
    omega
theorem val_append : ∀ (p s : List Int), val (p ++ s) = val p + D1 ^ p.length * val s
  | [], s => by simp [val]
  | d :: r, s => by
    simp only [List.cons_append, val, val_append r s, List.length_cons, Int.pow_succ]
    grind
theorem val_lt : ∀ {l : List Int}, allDig l → val l < D1 ^ l.length
  | [], _ => by simp [val]
  | d :: r, h => by
    have := val_lt h.2
    have hd := h.1.2
    simp only [val, List.length_cons, Int.pow_succ]
    have : val r + 1 ≤ D1 ^ r.length := by omega
    have : D1 * (val r + 1) ≤ D1 * D1 ^ r.length := Int.mul_le_mul_of_nonneg_left this (by decide)
    have e : D1 ^ r.length * D1 = D1 * D1 ^ r.length := Int.mul_comm ..
    rw [e]
    have e2 : D1 * (val r + 1) = D1 * val r + D1 := by grind
    rw [e2] at this
    omega
theorem val_inj : ∀ {l s : List Int}, allDig l → allDig s → l.length = s.length → val l = val s → l = s
  | [], [], _, _, _, _ => rfl
  | d :: r, e :: t, hl, hs, hn, hv => by
    simp only [val] at hv
    have h1 := hl.1
    have h2 := hs.1
    unfold Dig at h1 h2
    simp only [D1] at *
    have hd : d = e := by omega
    have hr : val r = val t := by omega
    rw [hd, val_inj hl.2 hs.2 (by simpa using hn) hr]
  | [], _ :: _, _, _, h, _ => by simp at h
  | _ :: _, [], _, _, h, _ => by simp at h
theorem allDig_append {p s : List Int} : allDig (p ++ s) ↔ allDig p ∧ allDig s := by
  induction p with
  | nil => simp [allDig]
  | cons d r ih => simp only [List.cons_append, allDig, ih, and_assoc]
theorem allDig_take : ∀ {l : List Int} (i : Nat), allDig l → allDig (l.take i)
  | _, 0, _ => by simp [allDig]
  | [], _ + 1, _ => by simp [allDig]
  | d :: r, i + 1, h => ⟨h.1, allDig_take i h.2⟩

/-! ### A row of the product -/
def rS (o a b c : Int) : Int := IntKind.u64.wrap (IntKind.u64.wrap (o + IntKind.u64.wrap (a * b)) + c)
def rR (o a b c : Int) : Int := (rS o a b c).tmod 4294967296
def rC (o a b c : Int) : Int := IntKind.u64.wrap ((rS o a b c).tdiv 4294967296)
def row (a : Int) : List Int → List Int → Int → List Int
  | o :: os, b :: bs, c => rR o a b c :: row a os bs (rC o a b c)
  | _, _, c => [c]
theorem r_spec {o a b c : Int} (ho : Dig o) (ha : Dig a) (hb : Dig b) (hc : Dig c) : rR o a b c + D1 * rC o a b c = o + a * b + c ∧ Dig (rR o a b c) ∧ Dig (rC o a b c) := by
  have h0 : 0 ≤ a * b := Int.mul_nonneg ha.1 hb.1
  have h1 : a * b ≤ 4294967295 * 4294967295 := by
    unfold Dig at ha hb
    simp only [D1] at *
    exact Int.mul_le_mul (by omega) (by omega) hb.1 (by decide)
  unfold Dig at ho hc
  have e : rS o a b c = o + a * b + c := by
    unfold rS
    simp only [D1] at *
    rw [wrap_in (x := a * b) h0 (by simp only [BB]; omega), wrap_in (x := o + a * b) (by omega) (by simp only [BB]; omega), wrap_in (by omega) (by simp only [BB]; omega)]
  unfold rR rC
  unfold Dig
  rw [e, tmod_dig (by simp only [D1] at *; omega), tdiv_dig (by simp only [D1] at *; omega)]
  simp only [D1] at *
  rw [wrap_in (by omega) (by simp only [BB]; omega)]
  omega
theorem row_spec {a : Int} (ha : Dig a) : ∀ {os bs : List Int} {c : Int}, os.length = bs.length → allDig os → allDig bs → Dig c →
    val (row a os bs c) = val os + a * val bs + c ∧ allDig (row a os bs c) ∧ (row a os bs c).length = os.length + 1
  | [], [], c, _, _, _, hc => ⟨by simp [row, val], ⟨hc, trivial⟩, rfl⟩
  | o :: os, b :: bs, c, hl, ho, hb, hc => by
    obtain ⟨e1, e2, e3⟩ := r_spec ho.1 ha hb.1 hc
    obtain ⟨i1, i2, i3⟩ := row_spec ha (by simpa using hl) ho.2 hb.2 e3
    refine ⟨?_, ⟨e2, i2⟩, by simp [row, i3]⟩
    simp only [row, val, i1]
    grind
  | [], _ :: _, _, h, _, _, _ => by simp at h
  | _ :: _, [], _, h, _, _, _ => by simp at h

/-- A row is added i places up. -/
theorem row_at {a : Int} {p w r bs : List Int} {z : Int} (ha : Dig a) (hl : allDig (p ++ (w ++ z :: r))) (hb : allDig bs) (hw : w.length = bs.length) (hlt : val (p ++ (w ++ z :: r)) < D1 ^ (p ++ w).length) :
    val (p ++ (row a w bs 0 ++ r)) = val (p ++ (w ++ z :: r)) + D1 ^ p.length * (a * val bs) ∧ allDig (p ++ (row a w bs 0 ++ r)) := by
  obtain ⟨h1, h2⟩ := allDig_append.1 hl
  obtain ⟨h3, h4⟩ := allDig_append.1 h2
  obtain ⟨e1, e2, e3⟩ := row_spec ha hw h3 hb (c := 0) ⟨Int.le_refl _, by decide⟩
  refine ⟨?_, allDig_append.2 ⟨h1, allDig_append.2 ⟨e2, h4.2⟩⟩⟩
  have hz : z = 0 := by
    rw [← List.append_assoc, val_append] at hlt
    have h5 := val_nonneg (allDig_append.2 ⟨h1, h3⟩)
    have h6 := val_nonneg h4
    have hpos : (0 : Int) < D1 ^ (p ++ w).length := Int.pow_pos (by decide)
    have h7 : val (z :: r) = 0 := by
      by_cases h : 0 < val (z :: r)
      · exfalso
        have : D1 ^ (p ++ w).length * 1 ≤ D1 ^ (p ++ w).length * val (z :: r) := Int.mul_le_mul_of_nonneg_left (by omega) (Int.le_of_lt hpos)
        omega
      · omega
    simp only [val] at h7
    have := val_nonneg h4.2
    have := h4.1.1
    simp only [D1] at *
    omega
  subst hz
  rw [val_append, val_append, val_append, val_append, e1, e3]
  simp only [val, Int.pow_succ]
  grind

/-! ### Sixteen digits -/
def aggL (l : List Int) : Value := .agg (l.map fun x => .int .u64 x).toArray
def T16 (n : Int) : Value := aggL [g0 n, g1 n, g2 n, g3 n, g4 n, g5 n, g6 n, g7 n, g0 (n / MM), g1 (n / MM), g2 (n / MM), g3 (n / MM), g4 (n / MM), g5 (n / MM), g6 (n / MM), g7 (n / MM)]
def l8 (n : Int) : List Int := [g0 n, g1 n, g2 n, g3 n, g4 n, g5 n, g6 n, g7 n]
theorem l8_dig (n : Int) : allDig (l8 n) := ⟨g0_dig n, g1_dig n, g2_dig n, g3_dig n, g4_dig n, g5_dig n, g6_dig n, g7_dig n, trivial⟩
theorem l8_val (n : Int) : val (l8 n) = n % MM := by
  rw [← g_sum]
  simp only [l8, val, D1, D2, D3, D4, D5, D6, D7]
  omega
def timesP : List Value → Prop
  | [x, y] => IsD x ∧ IsD y
  | _ => False
def timesV : List Value → Value
  | [x, y] => T16 ((dn x % MM) * (dn y % MM))
  | _ => undef

noncomputable def tBody : Code := bodyOf (innerOf P 76 0)
/-- Ahead of a round: i rounds are done, out holds l. -/
def tSt (xs ys : List Int) (g : Nat × List Int) : St :=
  ⟨[(6, .v (.int .i64 g.1)), (2, .ptr 0 0), (3, .ptr 1 0), (4, .ptr 2 0), (5, .ptr 3 0)],
   [(0, (.whole (aggL xs), 85)), (1, (.whole (aggL ys), 85)), (2, (.whole (aggL [0, 0, 0, 0, 0, 0, 0, 0, 0, 0, 0, 0, 0, 0, 0, 0]), 83)), (3, (.whole (aggL g.2), 83))], [], [3, 2, 1, 0], []⟩
def tFin (xs ys l : List Int) : St := tSt xs ys (8, l)

noncomputable def F4 : Env P := ⟨⟨[], []⟩, [], 10, []⟩
def tN0 (a0 a1 a2 a3 a4 a5 a6 a7 b0 b1 b2 b3 b4 b5 b6 b7 o0 o1 o2 o3 o4 o5 o6 o7 _o8 o9 o10 o11 o12 o13 o14 o15 : Int) : St := tSt [a0, a1, a2, a3, a4, a5, a6, a7] [b0, b1, b2, b3, b4, b5, b6, b7] (1, [] ++ (row a0 [o0, o1, o2, o3, o4, o5, o6, o7] [b0, b1, b2, b3, b4, b5, b6, b7] 0 ++ [o9, o10, o11, o12, o13, o14, o15]))
theorem t_step0 (a0 a1 a2 a3 a4 a5 a6 a7 b0 b1 b2 b3 b4 b5 b6 b7 o0 o1 o2 o3 o4 o5 o6 o7 o8 o9 o10 o11 o12 o13 o14 o15 : Int) (m : Nat) :
    stepF P F4 1 50 tBody (tSt [a0, a1, a2, a3, a4, a5, a6, a7] [b0, b1, b2, b3, b4, b5, b6, b7] (0, [o0, o1, o2, o3, o4, o5, o6, o7, o8, o9, o10, o11, o12, o13, o14, o15])) [.lit, .lit, .b false] 1000 (fun _ => some (tN0 a0 a1 a2 a3 a4 a5 a6 a7 b0 b1 b2 b3 b4 b5 b6 b7 o0 o1 o2 o3 o4 o5 o6 o7 o8 o9 o10 o11 o12 o13 o14 o15)) m = some (.normal, m, [(a0 == 0) = false] ++ selfL (tN0 a0 a1 a2 a3 a4 a5 a6 a7 b0 b1 b2 b3 b4 b5 b6 b7 o0 o1 o2 o3 o4 o5 o6 o7 o8 o9 o10 o11 o12 o13 o14 o15) [3]) := by kernel_rfl
theorem t_skip0 (a0 a1 a2 a3 a4 a5 a6 a7 b0 b1 b2 b3 b4 b5 b6 b7 o0 o1 o2 o3 o4 o5 o6 o7 o8 o9 o10 o11 o12 o13 o14 o15 : Int) (m : Nat) :
    stepF P F4 1 50 tBody (tSt [a0, a1, a2, a3, a4, a5, a6, a7] [b0, b1, b2, b3, b4, b5, b6, b7] (0, [o0, o1, o2, o3, o4, o5, o6, o7, o8, o9, o10, o11, o12, o13, o14, o15])) [.lit, .lit, .b true] 1000 (fun _ => some (tSt [a0, a1, a2, a3, a4, a5, a6, a7] [b0, b1, b2, b3, b4, b5, b6, b7] (1, [o0, o1, o2, o3, o4, o5, o6, o7, o8, o9, o10, o11, o12, o13, o14, o15]))) m = some (.normal, m, [(a0 == 0) = true] ++ selfL (tSt [a0, a1, a2, a3, a4, a5, a6, a7] [b0, b1, b2, b3, b4, b5, b6, b7] (1, [o0, o1, o2, o3, o4, o5, o6, o7, o8, o9, o10, o11, o12, o13, o14, o15])) []) := by kernel_rfl
def tN1 (a0 a1 a2 a3 a4 a5 a6 a7 b0 b1 b2 b3 b4 b5 b6 b7 o0 o1 o2 o3 o4 o5 o6 o7 o8 _o9 o10 o11 o12 o13 o14 o15 : Int) : St := tSt [a0, a1, a2, a3, a4, a5, a6, a7] [b0, b1, b2, b3, b4, b5, b6, b7] (2, [o0] ++ (row a1 [o1, o2, o3, o4, o5, o6, o7, o8] [b0, b1, b2, b3, b4, b5, b6, b7] 0 ++ [o10, o11, o12, o13, o14, o15]))
theorem t_step1 (a0 a1 a2 a3 a4 a5 a6 a7 b0 b1 b2 b3 b4 b5 b6 b7 o0 o1 o2 o3 o4 o5 o6 o7 o8 o9 o10 o11 o12 o13 o14 o15 : Int) (m : Nat) :
    stepF P F4 1 50 tBody (tSt [a0, a1, a2, a3, a4, a5, a6, a7] [b0, b1, b2, b3, b4, b5, b6, b7] (1, [o0, o1, o2, o3, o4, o5, o6, o7, o8, o9, o10, o11, o12, o13, o14, o15])) [.lit, .lit, .b false] 1000 (fun _ => some (tN1 a0 a1 a2 a3 a4 a5 a6 a7 b0 b1 b2 b3 b4 b5 b6 b7 o0 o1 o2 o3 o4 o5 o6 o7 o8 o9 o10 o11 o12 o13 o14 o15)) m = some (.normal, m, [(a1 == 0) = false] ++ selfL (tN1 a0 a1 a2 a3 a4 a5 a6 a7 b0 b1 b2 b3 b4 b5 b6 b7 o0 o1 o2 o3 o4 o5 o6 o7 o8 o9 o10 o11 o12 o13 o14 o15) [3]) := by kernel_rfl
theorem t_skip1 (a0 a1 a2 a3 a4 a5 a6 a7 b0 b1 b2 b3 b4 b5 b6 b7 o0 o1 o2 o3 o4 o5 o6 o7 o8 o9 o10 o11 o12 o13 o14 o15 : Int) (m : Nat) :
    stepF P F4 1 50 tBody (tSt [a0, a1, a2, a3, a4, a5, a6, a7] [b0, b1, b2, b3, b4, b5, b6, b7] (1, [o0, o1, o2, o3, o4, o5, o6, o7, o8, o9, o10, o11, o12, o13, o14, o15])) [.lit, .lit, .b true] 1000 (fun _ => some (tSt [a0, a1, a2, a3, a4, a5, a6, a7] [b0, b1, b2, b3, b4, b5, b6, b7] (2, [o0, o1, o2, o3, o4, o5, o6, o7, o8, o9, o10, o11, o12, o13, o14, o15]))) m = some (.normal, m, [(a1 == 0) = true] ++ selfL (tSt [a0, a1, a2, a3, a4, a5, a6, a7] [b0, b1, b2, b3, b4, b5, b6, b7] (2, [o0, o1, o2, o3, o4, o5, o6, o7, o8, o9, o10, o11, o12, o13, o14, o15])) []) := by kernel_rfl
def tN2 (a0 a1 a2 a3 a4 a5 a6 a7 b0 b1 b2 b3 b4 b5 b6 b7 o0 o1 o2 o3 o4 o5 o6 o7 o8 o9 _o10 o11 o12 o13 o14 o15 : Int) : St := tSt [a0, a1, a2, a3, a4, a5, a6, a7] [b0, b1, b2, b3, b4, b5, b6, b7] (3, [o0, o1] ++ (row a2 [o2, o3, o4, o5, o6, o7, o8, o9] [b0, b1, b2, b3, b4, b5, b6, b7] 0 ++ [o11, o12, o13, o14, o15]))
theorem t_step2 (a0 a1 a2 a3 a4 a5 a6 a7 b0 b1 b2 b3 b4 b5 b6 b7 o0 o1 o2 o3 o4 o5 o6 o7 o8 o9 o10 o11 o12 o13 o14 o15 : Int) (m : Nat) :
    stepF P F4 1 50 tBody (tSt [a0, a1, a2, a3, a4, a5, a6, a7] [b0, b1, b2, b3, b4, b5, b6, b7] (2, [o0, o1, o2, o3, o4, o5, o6, o7, o8, o9, o10, o11, o12, o13, o14, o15])) [.lit, .lit, .b false] 1000 (fun _ => some (tN2 a0 a1 a2 a3 a4 a5 a6 a7 b0 b1 b2 b3 b4 b5 b6 b7 o0 o1 o2 o3 o4 o5 o6 o7 o8 o9 o10 o11 o12 o13 o14 o15)) m = some (.normal, m, [(a2 == 0) = false] ++ selfL (tN2 a0 a1 a2 a3 a4 a5 a6 a7 b0 b1 b2 b3 b4 b5 b6 b7 o0 o1 o2 o3 o4 o5 o6 o7 o8 o9 o10 o11 o12 o13 o14 o15) [3]) := by kernel_rfl
theorem t_skip2 (a0 a1 a2 a3 a4 a5 a6 a7 b0 b1 b2 b3 b4 b5 b6 b7 o0 o1 o2 o3 o4 o5 o6 o7 o8 o9 o10 o11 o12 o13 o14 o15 : Int) (m : Nat) :
    stepF P F4 1 50 tBody (tSt [a0, a1, a2, a3, a4, a5, a6, a7] [b0, b1, b2, b3, b4, b5, b6, b7] (2, [o0, o1, o2, o3, o4, o5, o6, o7, o8, o9, o10, o11, o12, o13, o14, o15])) [.lit, .lit, .b true] 1000 (fun _ => some (tSt [a0, a1, a2, a3, a4, a5, a6, a7] [b0, b1, b2, b3, b4, b5, b6, b7] (3, [o0, o1, o2, o3, o4, o5, o6, o7, o8, o9, o10, o11, o12, o13, o14, o15]))) m = some (.normal, m, [(a2 == 0) = true] ++ selfL (tSt [a0, a1, a2, a3, a4, a5, a6, a7] [b0, b1, b2, b3, b4, b5, b6, b7] (3, [o0, o1, o2, o3, o4, o5, o6, o7, o8, o9, o10, o11, o12, o13, o14, o15])) []) := by kernel_rfl
def tN3 (a0 a1 a2 a3 a4 a5 a6 a7 b0 b1 b2 b3 b4 b5 b6 b7 o0 o1 o2 o3 o4 o5 o6 o7 o8 o9 o10 _o11 o12 o13 o14 o15 : Int) : St := tSt [a0, a1, a2, a3, a4, a5, a6, a7] [b0, b1, b2, b3, b4, b5, b6, b7] (4, [o0, o1, o2] ++ (row a3 [o3, o4, o5, o6, o7, o8, o9, o10] [b0, b1, b2, b3, b4, b5, b6, b7] 0 ++ [o12, o13, o14, o15]))
theorem t_step3 (a0 a1 a2 a3 a4 a5 a6 a7 b0 b1 b2 b3 b4 b5 b6 b7 o0 o1 o2 o3 o4 o5 o6 o7 o8 o9 o10 o11 o12 o13 o14 o15 : Int) (m : Nat) :
    stepF P F4 1 50 tBody (tSt [a0, a1, a2, a3, a4, a5, a6, a7] [b0, b1, b2, b3, b4, b5, b6, b7] (3, [o0, o1, o2, o3, o4, o5, o6, o7, o8, o9, o10, o11, o12, o13, o14, o15])) [.lit, .lit, .b false] 1000 (fun _ => some (tN3 a0 a1 a2 a3 a4 a5 a6 a7 b0 b1 b2 b3 b4 b5 b6 b7 o0 o1 o2 o3 o4 o5 o6 o7 o8 o9 o10 o11 o12 o13 o14 o15)) m = some (.normal, m, [(a3 == 0) = false] ++ selfL (tN3 a0 a1 a2 a3 a4 a5 a6 a7 b0 b1 b2 b3 b4 b5 b6 b7 o0 o1 o2 o3 o4 o5 o6 o7 o8 o9 o10 o11 o12 o13 o14 o15) [3]) := by kernel_rfl
theorem t_skip3 (a0 a1 a2 a3 a4 a5 a6 a7 b0 b1 b2 b3 b4 b5 b6 b7 o0 o1 o2 o3 o4 o5 o6 o7 o8 o9 o10 o11 o12 o13 o14 o15 : Int) (m : Nat) :
    stepF P F4 1 50 tBody (tSt [a0, a1, a2, a3, a4, a5, a6, a7] [b0, b1, b2, b3, b4, b5, b6, b7] (3, [o0, o1, o2, o3, o4, o5, o6, o7, o8, o9, o10, o11, o12, o13, o14, o15])) [.lit, .lit, .b true] 1000 (fun _ => some (tSt [a0, a1, a2, a3, a4, a5, a6, a7] [b0, b1, b2, b3, b4, b5, b6, b7] (4, [o0, o1, o2, o3, o4, o5, o6, o7, o8, o9, o10, o11, o12, o13, o14, o15]))) m = some (.normal, m, [(a3 == 0) = true] ++ selfL (tSt [a0, a1, a2, a3, a4, a5, a6, a7] [b0, b1, b2, b3, b4, b5, b6, b7] (4, [o0, o1, o2, o3, o4, o5, o6, o7, o8, o9, o10, o11, o12, o13, o14, o15])) []) := by kernel_rfl
def tN4 (a0 a1 a2 a3 a4 a5 a6 a7 b0 b1 b2 b3 b4 b5 b6 b7 o0 o1 o2 o3 o4 o5 o6 o7 o8 o9 o10 o11 _o12 o13 o14 o15 : Int) : St := tSt [a0, a1, a2, a3, a4, a5, a6, a7] [b0, b1, b2, b3, b4, b5, b6, b7] (5, [o0, o1, o2, o3] ++ (row a4 [o4, o5, o6, o7, o8, o9, o10, o11] [b0, b1, b2, b3, b4, b5, b6, b7] 0 ++ [o13, o14, o15]))
theorem t_step4 (a0 a1 a2 a3 a4 a5 a6 a7 b0 b1 b2 b3 b4 b5 b6 b7 o0 o1 o2 o3 o4 o5 o6 o7 o8 o9 o10 o11 o12 o13 o14 o15 : Int) (m : Nat) :
    stepF P F4 1 50 tBody (tSt [a0, a1, a2, a3, a4, a5, a6, a7] [b0, b1, b2, b3, b4, b5, b6, b7] (4, [o0, o1, o2, o3, o4, o5, o6, o7, o8, o9, o10, o11, o12, o13, o14, o15])) [.lit, .lit, .b false] 1000 (fun _ => some (tN4 a0 a1 a2 a3 a4 a5 a6 a7 b0 b1 b2 b3 b4 b5 b6 b7 o0 o1 o2 o3 o4 o5 o6 o7 o8 o9 o10 o11 o12 o13 o14 o15)) m = some (.normal, m, [(a4 == 0) = false] ++ selfL (tN4 a0 a1 a2 a3 a4 a5 a6 a7 b0 b1 b2 b3 b4 b5 b6 b7 o0 o1 o2 o3 o4 o5 o6 o7 o8 o9 o10 o11 o12 o13 o14 o15) [3]) := by kernel_rfl
theorem t_skip4 (a0 a1 a2 a3 a4 a5 a6 a7 b0 b1 b2 b3 b4 b5 b6 b7 o0 o1 o2 o3 o4 o5 o6 o7 o8 o9 o10 o11 o12 o13 o14 o15 : Int) (m : Nat) :
    stepF P F4 1 50 tBody (tSt [a0, a1, a2, a3, a4, a5, a6, a7] [b0, b1, b2, b3, b4, b5, b6, b7] (4, [o0, o1, o2, o3, o4, o5, o6, o7, o8, o9, o10, o11, o12, o13, o14, o15])) [.lit, .lit, .b true] 1000 (fun _ => some (tSt [a0, a1, a2, a3, a4, a5, a6, a7] [b0, b1, b2, b3, b4, b5, b6, b7] (5, [o0, o1, o2, o3, o4, o5, o6, o7, o8, o9, o10, o11, o12, o13, o14, o15]))) m = some (.normal, m, [(a4 == 0) = true] ++ selfL (tSt [a0, a1, a2, a3, a4, a5, a6, a7] [b0, b1, b2, b3, b4, b5, b6, b7] (5, [o0, o1, o2, o3, o4, o5, o6, o7, o8, o9, o10, o11, o12, o13, o14, o15])) []) := by kernel_rfl
def tN5 (a0 a1 a2 a3 a4 a5 a6 a7 b0 b1 b2 b3 b4 b5 b6 b7 o0 o1 o2 o3 o4 o5 o6 o7 o8 o9 o10 o11 o12 _o13 o14 o15 : Int) : St := tSt [a0, a1, a2, a3, a4, a5, a6, a7] [b0, b1, b2, b3, b4, b5, b6, b7] (6, [o0, o1, o2, o3, o4] ++ (row a5 [o5, o6, o7, o8, o9, o10, o11, o12] [b0, b1, b2, b3, b4, b5, b6, b7] 0 ++ [o14, o15]))
theorem t_step5 (a0 a1 a2 a3 a4 a5 a6 a7 b0 b1 b2 b3 b4 b5 b6 b7 o0 o1 o2 o3 o4 o5 o6 o7 o8 o9 o10 o11 o12 o13 o14 o15 : Int) (m : Nat) :
    stepF P F4 1 50 tBody (tSt [a0, a1, a2, a3, a4, a5, a6, a7] [b0, b1, b2, b3, b4, b5, b6, b7] (5, [o0, o1, o2, o3, o4, o5, o6, o7, o8, o9, o10, o11, o12, o13, o14, o15])) [.lit, .lit, .b false] 1000 (fun _ => some (tN5 a0 a1 a2 a3 a4 a5 a6 a7 b0 b1 b2 b3 b4 b5 b6 b7 o0 o1 o2 o3 o4 o5 o6 o7 o8 o9 o10 o11 o12 o13 o14 o15)) m = some (.normal, m, [(a5 == 0) = false] ++ selfL (tN5 a0 a1 a2 a3 a4 a5 a6 a7 b0 b1 b2 b3 b4 b5 b6 b7 o0 o1 o2 o3 o4 o5 o6 o7 o8 o9 o10 o11 o12 o13 o14 o15) [3]) := by kernel_rfl
theorem t_skip5 (a0 a1 a2 a3 a4 a5 a6 a7 b0 b1 b2 b3 b4 b5 b6 b7 o0 o1 o2 o3 o4 o5 o6 o7 o8 o9 o10 o11 o12 o13 o14 o15 : Int) (m : Nat) :
    stepF P F4 1 50 tBody (tSt [a0, a1, a2, a3, a4, a5, a6, a7] [b0, b1, b2, b3, b4, b5, b6, b7] (5, [o0, o1, o2, o3, o4, o5, o6, o7, o8, o9, o10, o11, o12, o13, o14, o15])) [.lit, .lit, .b true] 1000 (fun _ => some (tSt [a0, a1, a2, a3, a4, a5, a6, a7] [b0, b1, b2, b3, b4, b5, b6, b7] (6, [o0, o1, o2, o3, o4, o5, o6, o7, o8, o9, o10, o11, o12, o13, o14, o15]))) m = some (.normal, m, [(a5 == 0) = true] ++ selfL (tSt [a0, a1, a2, a3, a4, a5, a6, a7] [b0, b1, b2, b3, b4, b5, b6, b7] (6, [o0, o1, o2, o3, o4, o5, o6, o7, o8, o9, o10, o11, o12, o13, o14, o15])) []) := by kernel_rfl
def tN6 (a0 a1 a2 a3 a4 a5 a6 a7 b0 b1 b2 b3 b4 b5 b6 b7 o0 o1 o2 o3 o4 o5 o6 o7 o8 o9 o10 o11 o12 o13 _o14 o15 : Int) : St := tSt [a0, a1, a2, a3, a4, a5, a6, a7] [b0, b1, b2, b3, b4, b5, b6, b7] (7, [o0, o1, o2, o3, o4, o5] ++ (row a6 [o6, o7, o8, o9, o10, o11, o12, o13] [b0, b1, b2, b3, b4, b5, b6, b7] 0 ++ [o15]))
theorem t_step6 (a0 a1 a2 a3 a4 a5 a6 a7 b0 b1 b2 b3 b4 b5 b6 b7 o0 o1 o2 o3 o4 o5 o6 o7 o8 o9 o10 o11 o12 o13 o14 o15 : Int) (m : Nat) :
    stepF P F4 1 50 tBody (tSt [a0, a1, a2, a3, a4, a5, a6, a7] [b0, b1, b2, b3, b4, b5, b6, b7] (6, [o0, o1, o2, o3, o4, o5, o6, o7, o8, o9, o10, o11, o12, o13, o14, o15])) [.lit, .lit, .b false] 1000 (fun _ => some (tN6 a0 a1 a2 a3 a4 a5 a6 a7 b0 b1 b2 b3 b4 b5 b6 b7 o0 o1 o2 o3 o4 o5 o6 o7 o8 o9 o10 o11 o12 o13 o14 o15)) m = some (.normal, m, [(a6 == 0) = false] ++ selfL (tN6 a0 a1 a2 a3 a4 a5 a6 a7 b0 b1 b2 b3 b4 b5 b6 b7 o0 o1 o2 o3 o4 o5 o6 o7 o8 o9 o10 o11 o12 o13 o14 o15) [3]) := by kernel_rfl
theorem t_skip6 (a0 a1 a2 a3 a4 a5 a6 a7 b0 b1 b2 b3 b4 b5 b6 b7 o0 o1 o2 o3 o4 o5 o6 o7 o8 o9 o10 o11 o12 o13 o14 o15 : Int) (m : Nat) :
    stepF P F4 1 50 tBody (tSt [a0, a1, a2, a3, a4, a5, a6, a7] [b0, b1, b2, b3, b4, b5, b6, b7] (6, [o0, o1, o2, o3, o4, o5, o6, o7, o8, o9, o10, o11, o12, o13, o14, o15])) [.lit, .lit, .b true] 1000 (fun _ => some (tSt [a0, a1, a2, a3, a4, a5, a6, a7] [b0, b1, b2, b3, b4, b5, b6, b7] (7, [o0, o1, o2, o3, o4, o5, o6, o7, o8, o9, o10, o11, o12, o13, o14, o15]))) m = some (.normal, m, [(a6 == 0) = true] ++ selfL (tSt [a0, a1, a2, a3, a4, a5, a6, a7] [b0, b1, b2, b3, b4, b5, b6, b7] (7, [o0, o1, o2, o3, o4, o5, o6, o7, o8, o9, o10, o11, o12, o13, o14, o15])) []) := by kernel_rfl
def tN7 (a0 a1 a2 a3 a4 a5 a6 a7 b0 b1 b2 b3 b4 b5 b6 b7 o0 o1 o2 o3 o4 o5 o6 o7 o8 o9 o10 o11 o12 o13 o14 _o15 : Int) : St := tSt [a0, a1, a2, a3, a4, a5, a6, a7] [b0, b1, b2, b3, b4, b5, b6, b7] (8, [o0, o1, o2, o3, o4, o5, o6] ++ (row a7 [o7, o8, o9, o10, o11, o12, o13, o14] [b0, b1, b2, b3, b4, b5, b6, b7] 0 ++ []))
theorem t_step7 (a0 a1 a2 a3 a4 a5 a6 a7 b0 b1 b2 b3 b4 b5 b6 b7 o0 o1 o2 o3 o4 o5 o6 o7 o8 o9 o10 o11 o12 o13 o14 o15 : Int) (m : Nat) :
    stepF P F4 1 50 tBody (tSt [a0, a1, a2, a3, a4, a5, a6, a7] [b0, b1, b2, b3, b4, b5, b6, b7] (7, [o0, o1, o2, o3, o4, o5, o6, o7, o8, o9, o10, o11, o12, o13, o14, o15])) [.lit, .lit, .b false] 1000 (fun _ => some (tN7 a0 a1 a2 a3 a4 a5 a6 a7 b0 b1 b2 b3 b4 b5 b6 b7 o0 o1 o2 o3 o4 o5 o6 o7 o8 o9 o10 o11 o12 o13 o14 o15)) m = some (.normal, m, [(a7 == 0) = false] ++ selfL (tN7 a0 a1 a2 a3 a4 a5 a6 a7 b0 b1 b2 b3 b4 b5 b6 b7 o0 o1 o2 o3 o4 o5 o6 o7 o8 o9 o10 o11 o12 o13 o14 o15) [3]) := by kernel_rfl
theorem t_skip7 (a0 a1 a2 a3 a4 a5 a6 a7 b0 b1 b2 b3 b4 b5 b6 b7 o0 o1 o2 o3 o4 o5 o6 o7 o8 o9 o10 o11 o12 o13 o14 o15 : Int) (m : Nat) :
    stepF P F4 1 50 tBody (tSt [a0, a1, a2, a3, a4, a5, a6, a7] [b0, b1, b2, b3, b4, b5, b6, b7] (7, [o0, o1, o2, o3, o4, o5, o6, o7, o8, o9, o10, o11, o12, o13, o14, o15])) [.lit, .lit, .b true] 1000 (fun _ => some (tSt [a0, a1, a2, a3, a4, a5, a6, a7] [b0, b1, b2, b3, b4, b5, b6, b7] (8, [o0, o1, o2, o3, o4, o5, o6, o7, o8, o9, o10, o11, o12, o13, o14, o15]))) m = some (.normal, m, [(a7 == 0) = true] ++ selfL (tSt [a0, a1, a2, a3, a4, a5, a6, a7] [b0, b1, b2, b3, b4, b5, b6, b7] (8, [o0, o1, o2, o3, o4, o5, o6, o7, o8, o9, o10, o11, o12, o13, o14, o15])) []) := by kernel_rfl
theorem t_exit (a0 a1 a2 a3 a4 a5 a6 a7 b0 b1 b2 b3 b4 b5 b6 b7 o0 o1 o2 o3 o4 o5 o6 o7 o8 o9 o10 o11 o12 o13 o14 o15 : Int) (m : Nat) :
    stepF P F4 1 50 tBody (tSt [a0, a1, a2, a3, a4, a5, a6, a7] [b0, b1, b2, b3, b4, b5, b6, b7] (8, [o0, o1, o2, o3, o4, o5, o6, o7, o8, o9, o10, o11, o12, o13, o14, o15])) [] 1000 (fun _ => some (tSt [a0, a1, a2, a3, a4, a5, a6, a7] [b0, b1, b2, b3, b4, b5, b6, b7] (8, [o0, o1, o2, o3, o4, o5, o6, o7, o8, o9, o10, o11, o12, o13, o14, o15]))) m = some (.exit 0, m, selfL (tSt [a0, a1, a2, a3, a4, a5, a6, a7] [b0, b1, b2, b3, b4, b5, b6, b7] (8, [o0, o1, o2, o3, o4, o5, o6, o7, o8, o9, o10, o11, o12, o13, o14, o15])) []) := by kernel_rfl

def tInv (xs ys : List Int) (g : Nat × List Int) : Prop := g.1 ≤ 8 ∧ g.2.length = 16 ∧ allDig g.2 ∧ val g.2 = val (xs.take g.1) * val ys

theorem mul_lt {x y A B : Int} (hx : 0 ≤ x) (hxA : x < A) (hyB : y < B) (hB : 0 < B) : x * y < A * B := by
  have h1 : x * y ≤ x * B := Int.mul_le_mul_of_nonneg_left (by omega) hx
  have h2 : x * B < A * B := Int.mul_lt_mul_of_pos_right hxA hB
  omega

theorem t_next {xs p w r ys : List Int} {z a : Int} {k : Nat} (hp : p.length = k) (hw : w.length = 8) (hy : ys.length = 8) (hr : r.length + k = 7) (hx : xs.take (k + 1) = xs.take k ++ [a]) (htk : (xs.take k).length = k)
    (hxd : allDig xs) (hyd : allDig ys) (h : tInv xs ys (k, p ++ (w ++ z :: r))) : tInv xs ys (k + 1, p ++ (row a w ys 0 ++ r)) := by
  obtain ⟨h1, h2, h3, h4⟩ := h
  have ha : Dig a := by
    have := allDig_take (k + 1) hxd
    rw [hx] at this
    exact (allDig_append.1 this).2.1
  have hlt : val (p ++ (w ++ z :: r)) < D1 ^ (p ++ w).length := by
    simp only at h4
    rw [h4, List.length_append, hp, hw, Int.pow_add]
    have q1 := val_lt (allDig_take k hxd)
    have q2 := val_lt hyd
    rw [htk] at q1
    rw [hy] at q2
    exact mul_lt (val_nonneg (allDig_take k hxd)) q1 q2 (by decide)
  obtain ⟨e1, e2⟩ := row_at ha h3 hyd (hw.trans hy.symm) hlt
  have hd := row_spec ha (c := 0) (hw.trans hy.symm) (allDig_append.1 (allDig_append.1 h3).2).1 hyd ⟨Int.le_refl _, by decide⟩
  refine ⟨by simp only; omega, ?_, e2, ?_⟩
  · simp only [List.length_append, hd.2.2, hp, hw]
    omega
  · simp only at h4 ⊢
    rw [e1, h4, hx, val_append, htk, hp]
    simp only [val]
    grind

theorem t_same {xs l ys : List Int} {a : Int} {k : Nat} (hk : k < 8) (hx : xs.take (k + 1) = xs.take k ++ [a]) (ha : a = 0) (h : tInv xs ys (k, l)) : tInv xs ys (k + 1, l) := by
  obtain ⟨h1, h2, h3, h4⟩ := h
  refine ⟨by simp only; omega, h2, h3, ?_⟩
  simp only at h4 ⊢
  rw [hx, val_append, ha]
  simp only [val]
  rw [h4]
  grind

def tOut (n : Int) : List Int := l8 n ++ l8 (n / MM)
theorem tOut_of {l : List Int} {n : Int} (hl : allDig l) (hn : l.length = 16) (hv : val l = n) (h0 : 0 ≤ n) (h1 : n < MM * MM) : l = tOut n := by
  refine val_inj hl (allDig_append.2 ⟨l8_dig _, l8_dig _⟩) (by simpa [l8, tOut] using hn) ?_
  rw [tOut, val_append, l8_val, l8_val, hv]
  have e : D1 ^ (l8 n).length = MM := by show D1 ^ 8 = MM; decide
  rw [e]
  simp only [MM] at *
  omega
theorem t_steps (a0 a1 a2 a3 a4 a5 a6 a7 b0 b1 b2 b3 b4 b5 b6 b7 : Int) (hx : allDig [a0, a1, a2, a3, a4, a5, a6, a7]) (hy : allDig [b0, b1, b2, b3, b4, b5, b6, b7]) (g : Nat × List Int) (h : tInv [a0, a1, a2, a3, a4, a5, a6, a7] [b0, b1, b2, b3, b4, b5, b6, b7] g) :
    StepTo P F4 1 50 tBody (tSt [a0, a1, a2, a3, a4, a5, a6, a7] [b0, b1, b2, b3, b4, b5, b6, b7] g) fun o S1 => (o = .normal ∧ ∃ g', tInv [a0, a1, a2, a3, a4, a5, a6, a7] [b0, b1, b2, b3, b4, b5, b6, b7] g' ∧ 9 - g'.1 < 9 - g.1 ∧ Keeps S1 (tSt [a0, a1, a2, a3, a4, a5, a6, a7] [b0, b1, b2, b3, b4, b5, b6, b7] g')) ∨
      (o = .exit 0 ∧ Keeps S1 (tSt [a0, a1, a2, a3, a4, a5, a6, a7] [b0, b1, b2, b3, b4, b5, b6, b7] (8, tOut (val [a0, a1, a2, a3, a4, a5, a6, a7] * val [b0, b1, b2, b3, b4, b5, b6, b7])))) := by
  obtain ⟨i, l⟩ := g
  have hlen := h.2.1
  simp only at hlen
  match l, hlen with
  | [o0, o1, o2, o3, o4, o5, o6, o7, o8, o9, o10, o11, o12, o13, o14, o15], _ =>
    have hi : i ≤ 8 := h.1
    match i, hi with
    | 0, _ =>
      cases hz : (a0 == 0) with
      | false => exact step_run (t_step0 a0 a1 a2 a3 a4 a5 a6 a7 b0 b1 b2 b3 b4 b5 b6 b7 o0 o1 o2 o3 o4 o5 o6 o7 o8 o9 o10 o11 o12 o13 o14 o15) (ps_app (ps_cons hz ps_nil) (selfL_ok _ _)) rfl fun S1 hk => .inl ⟨rfl, _, t_next (p := []) (w := [o0, o1, o2, o3, o4, o5, o6, o7]) (r := [o9, o10, o11, o12, o13, o14, o15]) (k := 0) rfl rfl rfl rfl rfl rfl hx hy h, by simp only; omega, hk⟩
      | true => exact step_run (t_skip0 a0 a1 a2 a3 a4 a5 a6 a7 b0 b1 b2 b3 b4 b5 b6 b7 o0 o1 o2 o3 o4 o5 o6 o7 o8 o9 o10 o11 o12 o13 o14 o15) (ps_app (ps_cons hz ps_nil) (selfL_ok _ _)) rfl fun S1 hk => .inl ⟨rfl, _, t_same (k := 0) (a := a0) (by decide) rfl (beq_iff_eq.1 hz) h, by simp only; omega, hk⟩
    | 1, _ =>
      cases hz : (a1 == 0) with
      | false => exact step_run (t_step1 a0 a1 a2 a3 a4 a5 a6 a7 b0 b1 b2 b3 b4 b5 b6 b7 o0 o1 o2 o3 o4 o5 o6 o7 o8 o9 o10 o11 o12 o13 o14 o15) (ps_app (ps_cons hz ps_nil) (selfL_ok _ _)) rfl fun S1 hk => .inl ⟨rfl, _, t_next (p := [o0]) (w := [o1, o2, o3, o4, o5, o6, o7, o8]) (r := [o10, o11, o12, o13, o14, o15]) (k := 1) rfl rfl rfl rfl rfl rfl hx hy h, by simp only; omega, hk⟩
      | true => exact step_run (t_skip1 a0 a1 a2 a3 a4 a5 a6 a7 b0 b1 b2 b3 b4 b5 b6 b7 o0 o1 o2 o3 o4 o5 o6 o7 o8 o9 o10 o11 o12 o13 o14 o15) (ps_app (ps_cons hz ps_nil) (selfL_ok _ _)) rfl fun S1 hk => .inl ⟨rfl, _, t_same (k := 1) (a := a1) (by decide) rfl (beq_iff_eq.1 hz) h, by simp only; omega, hk⟩
    | 2, _ =>
      cases hz : (a2 == 0) with
      | false => exact step_run (t_step2 a0 a1 a2 a3 a4 a5 a6 a7 b0 b1 b2 b3 b4 b5 b6 b7 o0 o1 o2 o3 o4 o5 o6 o7 o8 o9 o10 o11 o12 o13 o14 o15) (ps_app (ps_cons hz ps_nil) (selfL_ok _ _)) rfl fun S1 hk => .inl ⟨rfl, _, t_next (p := [o0, o1]) (w := [o2, o3, o4, o5, o6, o7, o8, o9]) (r := [o11, o12, o13, o14, o15]) (k := 2) rfl rfl rfl rfl rfl rfl hx hy h, by simp only; omega, hk⟩
      | true => exact step_run (t_skip2 a0 a1 a2 a3 a4 a5 a6 a7 b0 b1 b2 b3 b4 b5 b6 b7 o0 o1 o2 o3 o4 o5 o6 o7 o8 o9 o10 o11 o12 o13 o14 o15) (ps_app (ps_cons hz ps_nil) (selfL_ok _ _)) rfl fun S1 hk => .inl ⟨rfl, _, t_same (k := 2) (a := a2) (by decide) rfl (beq_iff_eq.1 hz) h, by simp only; omega, hk⟩
    | 3, _ =>
      cases hz : (a3 == 0) with
      | false => exact step_run (t_step3 a0 a1 a2 a3 a4 a5 a6 a7 b0 b1 b2 b3 b4 b5 b6 b7 o0 o1 o2 o3 o4 o5 o6 o7 o8 o9 o10 o11 o12 o13 o14 o15) (ps_app (ps_cons hz ps_nil) (selfL_ok _ _)) rfl fun S1 hk => .inl ⟨rfl, _, t_next (p := [o0, o1, o2]) (w := [o3, o4, o5, o6, o7, o8, o9, o10]) (r := [o12, o13, o14, o15]) (k := 3) rfl rfl rfl rfl rfl rfl hx hy h, by simp only; omega, hk⟩
      | true => exact step_run (t_skip3 a0 a1 a2 a3 a4 a5 a6 a7 b0 b1 b2 b3 b4 b5 b6 b7 o0 o1 o2 o3 o4 o5 o6 o7 o8 o9 o10 o11 o12 o13 o14 o15) (ps_app (ps_cons hz ps_nil) (selfL_ok _ _)) rfl fun S1 hk => .inl ⟨rfl, _, t_same (k := 3) (a := a3) (by decide) rfl (beq_iff_eq.1 hz) h, by simp only; omega, hk⟩
    | 4, _ =>
      cases hz : (a4 == 0) with
      | false => exact step_run (t_step4 a0 a1 a2 a3 a4 a5 a6 a7 b0 b1 b2 b3 b4 b5 b6 b7 o0 o1 o2 o3 o4 o5 o6 o7 o8 o9 o10 o11 o12 o13 o14 o15) (ps_app (ps_cons hz ps_nil) (selfL_ok _ _)) rfl fun S1 hk => .inl ⟨rfl, _, t_next (p := [o0, o1, o2, o3]) (w := [o4, o5, o6, o7, o8, o9, o10, o11]) (r := [o13, o14, o15]) (k := 4) rfl rfl rfl rfl rfl rfl hx hy h, by simp only; omega, hk⟩
      | true => exact step_run (t_skip4 a0 a1 a2 a3 a4 a5 a6 a7 b0 b1 b2 b3 b4 b5 b6 b7 o0 o1 o2 o3 o4 o5 o6 o7 o8 o9 o10 o11 o12 o13 o14 o15) (ps_app (ps_cons hz ps_nil) (selfL_ok _ _)) rfl fun S1 hk => .inl ⟨rfl, _, t_same (k := 4) (a := a4) (by decide) rfl (beq_iff_eq.1 hz) h, by simp only; omega, hk⟩
    | 5, _ =>
      cases hz : (a5 == 0) with
      | false => exact step_run (t_step5 a0 a1 a2 a3 a4 a5 a6 a7 b0 b1 b2 b3 b4 b5 b6 b7 o0 o1 o2 o3 o4 o5 o6 o7 o8 o9 o10 o11 o12 o13 o14 o15) (ps_app (ps_cons hz ps_nil) (selfL_ok _ _)) rfl fun S1 hk => .inl ⟨rfl, _, t_next (p := [o0, o1, o2, o3, o4]) (w := [o5, o6, o7, o8, o9, o10, o11, o12]) (r := [o14, o15]) (k := 5) rfl rfl rfl rfl rfl rfl hx hy h, by simp only; omega, hk⟩
      | true => exact step_run (t_skip5 a0 a1 a2 a3 a4 a5 a6 a7 b0 b1 b2 b3 b4 b5 b6 b7 o0 o1 o2 o3 o4 o5 o6 o7 o8 o9 o10 o11 o12 o13 o14 o15) (ps_app (ps_cons hz ps_nil) (selfL_ok _ _)) rfl fun S1 hk => .inl ⟨rfl, _, t_same (k := 5) (a := a5) (by decide) rfl (beq_iff_eq.1 hz) h, by simp only; omega, hk⟩
    | 6, _ =>
      cases hz : (a6 == 0) with
      | false => exact step_run (t_step6 a0 a1 a2 a3 a4 a5 a6 a7 b0 b1 b2 b3 b4 b5 b6 b7 o0 o1 o2 o3 o4 o5 o6 o7 o8 o9 o10 o11 o12 o13 o14 o15) (ps_app (ps_cons hz ps_nil) (selfL_ok _ _)) rfl fun S1 hk => .inl ⟨rfl, _, t_next (p := [o0, o1, o2, o3, o4, o5]) (w := [o6, o7, o8, o9, o10, o11, o12, o13]) (r := [o15]) (k := 6) rfl rfl rfl rfl rfl rfl hx hy h, by simp only; omega, hk⟩
      | true => exact step_run (t_skip6 a0 a1 a2 a3 a4 a5 a6 a7 b0 b1 b2 b3 b4 b5 b6 b7 o0 o1 o2 o3 o4 o5 o6 o7 o8 o9 o10 o11 o12 o13 o14 o15) (ps_app (ps_cons hz ps_nil) (selfL_ok _ _)) rfl fun S1 hk => .inl ⟨rfl, _, t_same (k := 6) (a := a6) (by decide) rfl (beq_iff_eq.1 hz) h, by simp only; omega, hk⟩
    | 7, _ =>
      cases hz : (a7 == 0) with
      | false => exact step_run (t_step7 a0 a1 a2 a3 a4 a5 a6 a7 b0 b1 b2 b3 b4 b5 b6 b7 o0 o1 o2 o3 o4 o5 o6 o7 o8 o9 o10 o11 o12 o13 o14 o15) (ps_app (ps_cons hz ps_nil) (selfL_ok _ _)) rfl fun S1 hk => .inl ⟨rfl, _, t_next (p := [o0, o1, o2, o3, o4, o5, o6]) (w := [o7, o8, o9, o10, o11, o12, o13, o14]) (r := []) (k := 7) rfl rfl rfl rfl rfl rfl hx hy h, by simp only; omega, hk⟩
      | true => exact step_run (t_skip7 a0 a1 a2 a3 a4 a5 a6 a7 b0 b1 b2 b3 b4 b5 b6 b7 o0 o1 o2 o3 o4 o5 o6 o7 o8 o9 o10 o11 o12 o13 o14 o15) (ps_app (ps_cons hz ps_nil) (selfL_ok _ _)) rfl fun S1 hk => .inl ⟨rfl, _, t_same (k := 7) (a := a7) (by decide) rfl (beq_iff_eq.1 hz) h, by simp only; omega, hk⟩
    | 8, _ =>
      have h0 := val_nonneg hx
      have h1 := val_nonneg hy
      have e8 : D1 ^ 8 = MM := by decide
      have h2 : val [a0, a1, a2, a3, a4, a5, a6, a7] < D1 ^ 8 := val_lt hx
      have h3 : val [b0, b1, b2, b3, b4, b5, b6, b7] < D1 ^ 8 := val_lt hy
      rw [e8] at h2 h3
      have e := tOut_of h.2.2.1 rfl h.2.2.2 (Int.mul_nonneg h0 h1) (mul_lt h0 h2 h3 (by decide))
      simp only [List.take] at e
      refine step_run (t_exit a0 a1 a2 a3 a4 a5 a6 a7 b0 b1 b2 b3 b4 b5 b6 b7 o0 o1 o2 o3 o4 o5 o6 o7 o8 o9 o10 o11 o12 o13 o14 o15) (selfL_ok _ _) rfl fun S1 hk => .inr ⟨rfl, ?_⟩
      rw [← e]
      exact hk

noncomputable def tLoop (a0 a1 a2 a3 a4 a5 a6 a7 b0 b1 b2 b3 b4 b5 b6 b7 : Int) (hx : allDig [a0, a1, a2, a3, a4, a5, a6, a7]) (hy : allDig [b0, b1, b2, b3, b4, b5, b6, b7]) : CodeC P :=
  loopC mo F4 (by rfl) 1 50 tBody [3, 2, 1, 0] (tSt [a0, a1, a2, a3, a4, a5, a6, a7] [b0, b1, b2, b3, b4, b5, b6, b7]) (tInv [a0, a1, a2, a3, a4, a5, a6, a7] [b0, b1, b2, b3, b4, b5, b6, b7]) (fun g => 9 - g.1) (.exit 0) (tSt [a0, a1, a2, a3, a4, a5, a6, a7] [b0, b1, b2, b3, b4, b5, b6, b7] (8, tOut (val [a0, a1, a2, a3, a4, a5, a6, a7] * val [b0, b1, b2, b3, b4, b5, b6, b7]))) (by simp) (fun _ => rfl) rfl (fun _ => rfl) rfl [] (fun _ => rfl) rfl (t_steps a0 a1 a2 a3 a4 a5 a6 a7 b0 b1 b2 b3 b4 b5 b6 b7 hx hy)
    (0, [0, 0, 0, 0, 0, 0, 0, 0, 0, 0, 0, 0, 0, 0, 0, 0]) ⟨by decide, rfl, by simp [allDig, Dig, D1], by simp [val]⟩
noncomputable def F5 (a0 a1 a2 a3 a4 a5 a6 a7 b0 b1 b2 b3 b4 b5 b6 b7 : Int) (hx : allDig [a0, a1, a2, a3, a4, a5, a6, a7]) (hy : allDig [b0, b1, b2, b3, b4, b5, b6, b7]) : Env P := ⟨⟨[], []⟩, [tLoop a0 a1 a2 a3 a4 a5 a6 a7 b0 b1 b2 b3 b4 b5 b6 b7 hx hy], 10, []⟩
theorem times_run (a0 a1 a2 a3 a4 a5 a6 a7 b0 b1 b2 b3 b4 b5 b6 b7 : Int) (hx : allDig [a0, a1, a2, a3, a4, a5, a6, a7]) (hy : allDig [b0, b1, b2, b3, b4, b5, b6, b7]) : runF P (F5 a0 a1 a2 a3 a4 a5 a6 a7 b0 b1 b2 b3 b4 b5 b6 b7 hx hy) 1 76 [aggL [a0, a1, a2, a3, a4, a5, a6, a7], aggL [b0, b1, b2, b3, b4, b5, b6, b7]] [.n 0] =
    some (aggL (tOut (val [a0, a1, a2, a3, a4, a5, a6, a7] * val [b0, b1, b2, b3, b4, b5, b6, b7])), [(Code.loop tBody = innerOf P 76 0)] ++ selfL (tSt [a0, a1, a2, a3, a4, a5, a6, a7] [b0, b1, b2, b3, b4, b5, b6, b7] (0, [0, 0, 0, 0, 0, 0, 0, 0, 0, 0, 0, 0, 0, 0, 0, 0])) []) := by kernel_rfl
theorem times_gives (args : List Value) (h : timesP args) : Gives P 76 args.toArray (timesV args) := by
  unfold timesP at h
  split at h
  · obtain ⟨⟨m, rfl⟩, ⟨n, rfl⟩⟩ := h
    refine gives_of_run mo (times_run (g0 m) (g1 m) (g2 m) (g3 m) (g4 m) (g5 m) (g6 m) (g7 m) (g0 n) (g1 n) (g2 n) (g3 n) (g4 n) (g5 n) (g6 n) (g7 n) (l8_dig m) (l8_dig n)) (ps_app (ps_cons (by kernel_rfl) ps_nil) (selfL_ok _ _)) ?_
    show aggL (tOut (val (l8 m) * val (l8 n))) = T16 ((dn (Dg m) % MM) * (dn (Dg n) % MM))
    rw [l8_val, l8_val, dn_Dg, dn_Dg, bm_mod, bm_mod]
    rfl
  · exact h.elim
noncomputable def times : Ctr P := ⟨76, timesP, timesV, times_gives⟩
end Go.Rd
