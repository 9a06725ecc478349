/-
  Contracts of the document's answer for wide numbers (gyreref02), fourth part: Mul. The ways are printed by refD.py.
-/
import Derived.Test.YtjfcndiodbaejaaDoorRefC
set_option maxRecDepth 100000
namespace Go.Rd
open Go Go.RowKit Go.Sx Go.Nm Go.Wd Go.Proofs

def mM (a b : Int) : Int := (dn (Dg (absI (tI (W a)))) % MM) * (dn (Dg (absI (tI (W b)))) % MM)
theorem absI_range {x : Int} (h : InR x) : 0 ≤ absI x ∧ absI x ≤ HH := by
  unfold InR at h
  unfold absI
  simp only [HH] at *
  split <;> omega
theorem mM_eq (a b : Int) : mM a b = absI (bm a) * absI (bm b) := by
  have h1 := absI_range (bm_range a)
  have h2 := absI_range (bm_range b)
  unfold mM
  rw [tI_W, tI_W, dn_Dg, dn_Dg, bm_mod, bm_mod, Int.emod_eq_of_lt h1.1 (by simp only [HH, MM] at *; omega), Int.emod_eq_of_lt h2.1 (by simp only [HH, MM] at *; omega)]
theorem mM_range (a b : Int) : 0 ≤ mM a b ∧ mM a b < MM * MM := by
  have h1 := absI_range (bm_range a)
  have h2 := absI_range (bm_range b)
  rw [mM_eq]
  exact ⟨Int.mul_nonneg h1.1 h2.1, mul_lt h1.1 (by simp only [HH, MM] at *; omega) (by simp only [HH, MM] at *; omega) (by decide)⟩
theorem m_same {a b : Int} (h : (decide (bm a < 0) == decide (bm b < 0)) = true) : bm a * bm b = mM a b := by
  rw [mM_eq]
  rw [beq_iff_eq, decide_eq_decide] at h
  unfold absI
  by_cases ha : bm a < 0
  · rw [if_pos ha, if_pos (h.1 ha)]; grind
  · rw [if_neg ha, if_neg (fun hb => ha (h.2 hb))]
theorem m_diff {a b : Int} (h : (decide (bm a < 0) == decide (bm b < 0)) = false) : bm a * bm b = -mM a b := by
  rw [mM_eq]
  rw [beq_eq_false_iff_ne, ne_eq, decide_eq_decide] at h
  unfold absI
  by_cases ha : bm a < 0
  · by_cases hb : bm b < 0
    · exact absurd ⟨fun _ => hb, fun _ => ha⟩ h
    · rw [if_pos ha, if_neg hb]; grind
  · by_cases hb : bm b < 0
    · rw [if_neg ha, if_pos hb]; grind
    · exact absurd ⟨fun h => absurd h ha, fun h => absurd h hb⟩ h
theorem m_high (a b : Int) (h : mM a b / MM ≠ 0) : MM ≤ mM a b := by
  have := (mM_range a b).1
  simp only [MM] at *
  omega
theorem m_low (a b : Int) (h0 : ¬ g0 (mM a b / MM) > 0) (h1 : ¬ g1 (mM a b / MM) > 0) (h2 : ¬ g2 (mM a b / MM) > 0) (h3 : ¬ g3 (mM a b / MM) > 0) (h4 : ¬ g4 (mM a b / MM) > 0) (h5 : ¬ g5 (mM a b / MM) > 0) (h6 : ¬ g6 (mM a b / MM) > 0)
    (h7 : ¬ g7 (mM a b / MM) > 0) : mM a b < MM := by
  have s := g_sum (mM a b / MM)
  have r := mM_range a b
  have i0 := (g0_dig (mM a b / MM)).1
  have i1 := (g1_dig (mM a b / MM)).1
  have i2 := (g2_dig (mM a b / MM)).1
  have i3 := (g3_dig (mM a b / MM)).1
  have i4 := (g4_dig (mM a b / MM)).1
  have i5 := (g5_dig (mM a b / MM)).1
  have i6 := (g6_dig (mM a b / MM)).1
  have i7 := (g7_dig (mM a b / MM)).1
  simp only [MM, D1, D2, D3, D4, D5, D6, D7] at *
  omega
theorem g_pos0 {m : Int} (h : decide (g0 m > 0) = true) : m ≠ 0 := by
  intro e
  rw [e] at h
  exact absurd h (by decide)
theorem g_pos1 {m : Int} (h : decide (g1 m > 0) = true) : m ≠ 0 := by
  intro e
  rw [e] at h
  exact absurd h (by decide)
theorem g_pos2 {m : Int} (h : decide (g2 m > 0) = true) : m ≠ 0 := by
  intro e
  rw [e] at h
  exact absurd h (by decide)
theorem g_pos3 {m : Int} (h : decide (g3 m > 0) = true) : m ≠ 0 := by
  intro e
  rw [e] at h
  exact absurd h (by decide)
theorem g_pos4 {m : Int} (h : decide (g4 m > 0) = true) : m ≠ 0 := by
  intro e
  rw [e] at h
  exact absurd h (by decide)
theorem g_pos5 {m : Int} (h : decide (g5 m > 0) = true) : m ≠ 0 := by
  intro e
  rw [e] at h
  exact absurd h (by decide)
theorem g_pos6 {m : Int} (h : decide (g6 m > 0) = true) : m ≠ 0 := by
  intro e
  rw [e] at h
  exact absurd h (by decide)
theorem g_pos7 {m : Int} (h : decide (g7 m > 0) = true) : m ≠ 0 := by
  intro e
  rw [e] at h
  exact absurd h (by decide)

theorem timesP_D (m n : Int) : timesP [Dg m, Dg n] := ⟨⟨m, rfl⟩, ⟨n, rfl⟩⟩
theorem D1P_g (n : Int) : D1P [.agg #[.int .u64 (g0 n), .int .u64 (g1 n), .int .u64 (g2 n), .int .u64 (g3 n), .int .u64 (g4 n), .int .u64 (g5 n), .int .u64 (g6 n), .int .u64 (g7 n)]] := ⟨n, rfl⟩
theorem WW (m : Int) : W (bm m) = W m := W_congr (bm_mod m)
theorem Wn (m : Int) : W (-bm (bm m)) = W (-m) := W_congr (by
  have h1 := bm_mod m
  rw [bm_in (bm_range m)]
  simp only [MM] at *
  omega)
theorem out_of {x : Int} (h : ¬ InR x) : true = !inRB x := by rw [inRB_not.2 h]; rfl
theorem mul_same_high {a b : Int} (h : MM ≤ mM a b) (q : (decide (bm a < 0) == decide (bm b < 0)) = true) : Value.tuple #[W (bm (mM a b)), .bool true] = .tuple #[W (bm a * bm b), .bool (!inRB (bm a * bm b))] := by
  rw [m_same q, WW, ← out_of (by unfold InR; simp only [MM, HH] at *; omega)]
theorem mul_diff_high {a b : Int} (h : MM ≤ mM a b) (q : (decide (bm a < 0) == decide (bm b < 0)) = false) : Value.tuple #[W (-bm (bm (mM a b))), .bool true] = .tuple #[W (bm a * bm b), .bool (!inRB (bm a * bm b))] := by
  rw [m_diff q, Wn, ← out_of (by unfold InR; simp only [MM, HH] at *; omega)]
theorem mul_same_low {a b : Int} (h : mM a b < MM) (q : (decide (bm a < 0) == decide (bm b < 0)) = true) :
    Value.tuple #[W (bm (mM a b)), .bool (decide (bm (bm (mM a b)) < 0))] = .tuple #[W (bm a * bm b), .bool (!inRB (bm a * bm b))] := by
  rw [m_same q, WW, bm_in (bm_range _)]
  have e : decide (bm (mM a b) < 0) = !inRB (mM a b) := by
    have r := (mM_range a b).1
    have h1 := bm_mod (mM a b)
    have h2 := bm_range (mM a b)
    unfold InR at h2
    unfold inRB
    rw [Bool.eq_iff_iff]
    simp only [decide_eq_true_iff, Bool.not_eq_true', Bool.and_eq_false_iff, decide_eq_false_iff_not]
    simp only [MM, HH] at *
    omega
  rw [e]
theorem mul_diff_low {a b : Int} (h : mM a b < MM) (q : (decide (bm a < 0) == decide (bm b < 0)) = false) (z : (!(weq (bm (mM a b)) 0)) = true) :
    Value.tuple #[W (-bm (bm (mM a b))), .bool (!(decide (bm (-bm (bm (mM a b))) < 0)))] = .tuple #[W (bm a * bm b), .bool (!inRB (bm a * bm b))] := by
  rw [m_diff q, Wn]
  have e : decide (bm (-bm (bm (mM a b))) < 0) = inRB (-mM a b) := by
    have r := (mM_range a b).1
    have h1 := bm_mod (mM a b)
    have h2 := bm_range (mM a b)
    rw [bm_in h2]
    have h3 := bm_mod (-bm (mM a b))
    have h4 := bm_range (-bm (mM a b))
    rw [weq_eq] at z
    unfold InR at h2 h4
    unfold inRB
    rw [Bool.eq_iff_iff]
    simp only [decide_eq_true_iff, Bool.not_eq_true', Bool.and_eq_true, decide_eq_false_iff_not] at *
    simp only [MM, HH] at *
    omega
  rw [e]
theorem mul_diff_zero {a b : Int} (h : mM a b < MM) (q : (decide (bm a < 0) == decide (bm b < 0)) = false) (z : (!(weq (bm (mM a b)) 0)) = false) :
    Value.tuple #[W (-bm (bm (mM a b))), .bool false] = .tuple #[W (bm a * bm b), .bool (!inRB (bm a * bm b))] := by
  have e : mM a b = 0 := by
    have r := (mM_range a b).1
    have h1 := bm_mod (mM a b)
    rw [weq_eq] at z
    simp only [Bool.not_eq_false', decide_eq_true_iff] at z
    simp only [MM] at *
    omega
  rw [m_diff q, Wn, e]
  rfl
noncomputable def F6 : Env P := ⟨[digits, wide, low, not, plus, neg, add, sub, of, int, size, cmp, sign, times], [], 10, []⟩
theorem mul_run0 (a b : Int) : runF P F6 1 45 [W a, W b] (lits 9 (.b true :: (lits 32 (.b true :: [])))) =
  some (.tuple #[W (dn (Dg (mM a b))), .bool true],
    [P1 [W a],
     P1 [W b],
     timesP [Dg (absI (tI (W a))), Dg (absI (tI (W b)))],
     (decide (g0 (mM a b / MM) > 0)) = true,
     D1P [.agg #[.int .u64 (g0 (mM a b)), .int .u64 (g1 (mM a b)), .int .u64 (g2 (mM a b)), .int .u64 (g3 (mM a b)), .int .u64 (g4 (mM a b)), .int .u64 (g5 (mM a b)), .int .u64 (g6 (mM a b)), .int .u64 (g7 (mM a b))]],
     P1 [W a],
     P1 [W b],
     ((decide (tI (W a) < 0)) == (decide (tI (W b) < 0))) = true]) := by kernel_rfl

theorem mul_run1 (a b : Int) : runF P F6 1 45 [W a, W b] (lits 9 (.b false :: (lits 4 (.b true :: (lits 27 (.b true :: [])))))) =
  some (.tuple #[W (dn (Dg (mM a b))), .bool true],
    [P1 [W a],
     P1 [W b],
     timesP [Dg (absI (tI (W a))), Dg (absI (tI (W b)))],
     (decide (g0 (mM a b / MM) > 0)) = false,
     (decide (g1 (mM a b / MM) > 0)) = true,
     D1P [.agg #[.int .u64 (g0 (mM a b)), .int .u64 (g1 (mM a b)), .int .u64 (g2 (mM a b)), .int .u64 (g3 (mM a b)), .int .u64 (g4 (mM a b)), .int .u64 (g5 (mM a b)), .int .u64 (g6 (mM a b)), .int .u64 (g7 (mM a b))]],
     P1 [W a],
     P1 [W b],
     ((decide (tI (W a) < 0)) == (decide (tI (W b) < 0))) = true]) := by kernel_rfl

theorem mul_run2 (a b : Int) : runF P F6 1 45 [W a, W b] (lits 9 (.b false :: (lits 4 (.b false :: (lits 4 (.b true :: (lits 22 (.b true :: [])))))))) =
  some (.tuple #[W (dn (Dg (mM a b))), .bool true],
    [P1 [W a],
     P1 [W b],
     timesP [Dg (absI (tI (W a))), Dg (absI (tI (W b)))],
     (decide (g0 (mM a b / MM) > 0)) = false,
     (decide (g1 (mM a b / MM) > 0)) = false,
     (decide (g2 (mM a b / MM) > 0)) = true,
     D1P [.agg #[.int .u64 (g0 (mM a b)), .int .u64 (g1 (mM a b)), .int .u64 (g2 (mM a b)), .int .u64 (g3 (mM a b)), .int .u64 (g4 (mM a b)), .int .u64 (g5 (mM a b)), .int .u64 (g6 (mM a b)), .int .u64 (g7 (mM a b))]],
     P1 [W a],
     P1 [W b],
     ((decide (tI (W a) < 0)) == (decide (tI (W b) < 0))) = true]) := by kernel_rfl

theorem mul_run3 (a b : Int) : runF P F6 1 45 [W a, W b] (lits 9 (.b false :: (lits 4 (.b false :: (lits 4 (.b false :: (lits 4 (.b true :: (lits 17 (.b true :: [])))))))))) =
  some (.tuple #[W (dn (Dg (mM a b))), .bool true],
    [P1 [W a],
     P1 [W b],
     timesP [Dg (absI (tI (W a))), Dg (absI (tI (W b)))],
     (decide (g0 (mM a b / MM) > 0)) = false,
     (decide (g1 (mM a b / MM) > 0)) = false,
     (decide (g2 (mM a b / MM) > 0)) = false,
     (decide (g3 (mM a b / MM) > 0)) = true,
     D1P [.agg #[.int .u64 (g0 (mM a b)), .int .u64 (g1 (mM a b)), .int .u64 (g2 (mM a b)), .int .u64 (g3 (mM a b)), .int .u64 (g4 (mM a b)), .int .u64 (g5 (mM a b)), .int .u64 (g6 (mM a b)), .int .u64 (g7 (mM a b))]],
     P1 [W a],
     P1 [W b],
     ((decide (tI (W a) < 0)) == (decide (tI (W b) < 0))) = true]) := by kernel_rfl

theorem mul_run4 (a b : Int) : runF P F6 1 45 [W a, W b] (lits 9 (.b false :: (lits 4 (.b false :: (lits 4 (.b false :: (lits 4 (.b false :: (lits 4 (.b true :: (lits 12 (.b true :: [])))))))))))) =
  some (.tuple #[W (dn (Dg (mM a b))), .bool true],
    [P1 [W a],
     P1 [W b],
     timesP [Dg (absI (tI (W a))), Dg (absI (tI (W b)))],
     (decide (g0 (mM a b / MM) > 0)) = false,
     (decide (g1 (mM a b / MM) > 0)) = false,
     (decide (g2 (mM a b / MM) > 0)) = false,
     (decide (g3 (mM a b / MM) > 0)) = false,
     (decide (g4 (mM a b / MM) > 0)) = true,
     D1P [.agg #[.int .u64 (g0 (mM a b)), .int .u64 (g1 (mM a b)), .int .u64 (g2 (mM a b)), .int .u64 (g3 (mM a b)), .int .u64 (g4 (mM a b)), .int .u64 (g5 (mM a b)), .int .u64 (g6 (mM a b)), .int .u64 (g7 (mM a b))]],
     P1 [W a],
     P1 [W b],
     ((decide (tI (W a) < 0)) == (decide (tI (W b) < 0))) = true]) := by kernel_rfl

theorem mul_run5 (a b : Int) : runF P F6 1 45 [W a, W b] (lits 9 (.b false :: (lits 4 (.b false :: (lits 4 (.b false :: (lits 4 (.b false :: (lits 4 (.b false :: (lits 4 (.b true :: (lits 7 (.b true :: [])))))))))))))) =
  some (.tuple #[W (dn (Dg (mM a b))), .bool true],
    [P1 [W a],
     P1 [W b],
     timesP [Dg (absI (tI (W a))), Dg (absI (tI (W b)))],
     (decide (g0 (mM a b / MM) > 0)) = false,
     (decide (g1 (mM a b / MM) > 0)) = false,
     (decide (g2 (mM a b / MM) > 0)) = false,
     (decide (g3 (mM a b / MM) > 0)) = false,
     (decide (g4 (mM a b / MM) > 0)) = false,
     (decide (g5 (mM a b / MM) > 0)) = true,
     D1P [.agg #[.int .u64 (g0 (mM a b)), .int .u64 (g1 (mM a b)), .int .u64 (g2 (mM a b)), .int .u64 (g3 (mM a b)), .int .u64 (g4 (mM a b)), .int .u64 (g5 (mM a b)), .int .u64 (g6 (mM a b)), .int .u64 (g7 (mM a b))]],
     P1 [W a],
     P1 [W b],
     ((decide (tI (W a) < 0)) == (decide (tI (W b) < 0))) = true]) := by kernel_rfl

theorem mul_run6 (a b : Int) : runF P F6 1 45 [W a, W b] (lits 9 (.b false :: (lits 4 (.b false :: (lits 4 (.b false :: (lits 4 (.b false :: (lits 4 (.b false :: (lits 4 (.b false :: (lits 4 (.b true :: (.lit :: (.lit :: (.b true :: []))))))))))))))))) =
  some (.tuple #[W (dn (Dg (mM a b))), .bool true],
    [P1 [W a],
     P1 [W b],
     timesP [Dg (absI (tI (W a))), Dg (absI (tI (W b)))],
     (decide (g0 (mM a b / MM) > 0)) = false,
     (decide (g1 (mM a b / MM) > 0)) = false,
     (decide (g2 (mM a b / MM) > 0)) = false,
     (decide (g3 (mM a b / MM) > 0)) = false,
     (decide (g4 (mM a b / MM) > 0)) = false,
     (decide (g5 (mM a b / MM) > 0)) = false,
     (decide (g6 (mM a b / MM) > 0)) = true,
     D1P [.agg #[.int .u64 (g0 (mM a b)), .int .u64 (g1 (mM a b)), .int .u64 (g2 (mM a b)), .int .u64 (g3 (mM a b)), .int .u64 (g4 (mM a b)), .int .u64 (g5 (mM a b)), .int .u64 (g6 (mM a b)), .int .u64 (g7 (mM a b))]],
     P1 [W a],
     P1 [W b],
     ((decide (tI (W a) < 0)) == (decide (tI (W b) < 0))) = true]) := by kernel_rfl

theorem mul_run7 (a b : Int) : runF P F6 1 45 [W a, W b] (lits 9 (.b false :: (lits 4 (.b false :: (lits 4 (.b false :: (lits 4 (.b false :: (lits 4 (.b false :: (lits 4 (.b false :: (lits 4 (.b false :: (.lit :: (.lit :: (.b true :: (.b true :: [])))))))))))))))))) =
  some (.tuple #[W (dn (Dg (mM a b))), .bool true],
    [P1 [W a],
     P1 [W b],
     timesP [Dg (absI (tI (W a))), Dg (absI (tI (W b)))],
     (decide (g0 (mM a b / MM) > 0)) = false,
     (decide (g1 (mM a b / MM) > 0)) = false,
     (decide (g2 (mM a b / MM) > 0)) = false,
     (decide (g3 (mM a b / MM) > 0)) = false,
     (decide (g4 (mM a b / MM) > 0)) = false,
     (decide (g5 (mM a b / MM) > 0)) = false,
     (decide (g6 (mM a b / MM) > 0)) = false,
     D1P [.agg #[.int .u64 (g0 (mM a b)), .int .u64 (g1 (mM a b)), .int .u64 (g2 (mM a b)), .int .u64 (g3 (mM a b)), .int .u64 (g4 (mM a b)), .int .u64 (g5 (mM a b)), .int .u64 (g6 (mM a b)), .int .u64 (g7 (mM a b))]],
     P1 [W a],
     P1 [W b],
     ((decide (tI (W a) < 0)) == (decide (tI (W b) < 0))) = true,
     (decide (g7 (mM a b / MM) > 0)) = true]) := by kernel_rfl

theorem mul_run8 (a b : Int) : runF P F6 1 45 [W a, W b] (lits 9 (.b false :: (lits 4 (.b false :: (lits 4 (.b false :: (lits 4 (.b false :: (lits 4 (.b false :: (lits 4 (.b false :: (lits 4 (.b false :: (.lit :: (.lit :: (.b false :: (.b true :: [])))))))))))))))))) =
  some (.tuple #[W (-tI (W (dn (Dg (mM a b))))), .bool true],
    [P1 [W a],
     P1 [W b],
     timesP [Dg (absI (tI (W a))), Dg (absI (tI (W b)))],
     (decide (g0 (mM a b / MM) > 0)) = false,
     (decide (g1 (mM a b / MM) > 0)) = false,
     (decide (g2 (mM a b / MM) > 0)) = false,
     (decide (g3 (mM a b / MM) > 0)) = false,
     (decide (g4 (mM a b / MM) > 0)) = false,
     (decide (g5 (mM a b / MM) > 0)) = false,
     (decide (g6 (mM a b / MM) > 0)) = false,
     D1P [.agg #[.int .u64 (g0 (mM a b)), .int .u64 (g1 (mM a b)), .int .u64 (g2 (mM a b)), .int .u64 (g3 (mM a b)), .int .u64 (g4 (mM a b)), .int .u64 (g5 (mM a b)), .int .u64 (g6 (mM a b)), .int .u64 (g7 (mM a b))]],
     P1 [W a],
     P1 [W b],
     ((decide (tI (W a) < 0)) == (decide (tI (W b) < 0))) = false,
     P1 [W (dn (Dg (mM a b)))],
     (decide (g7 (mM a b / MM) > 0)) = true]) := by kernel_rfl

theorem mul_run9 (a b : Int) : runF P F6 1 45 [W a, W b] (lits 9 (.b false :: (lits 4 (.b false :: (lits 4 (.b false :: (lits 4 (.b false :: (lits 4 (.b false :: (lits 4 (.b false :: (lits 4 (.b false :: (.lit :: (.lit :: (.b false :: (.b false :: (.b true :: []))))))))))))))))))) =
  some (.tuple #[W (-tI (W (dn (Dg (mM a b))))), .bool (!(decide (tI (W (-tI (W (dn (Dg (mM a b)))))) < 0)))],
    [P1 [W a],
     P1 [W b],
     timesP [Dg (absI (tI (W a))), Dg (absI (tI (W b)))],
     (decide (g0 (mM a b / MM) > 0)) = false,
     (decide (g1 (mM a b / MM) > 0)) = false,
     (decide (g2 (mM a b / MM) > 0)) = false,
     (decide (g3 (mM a b / MM) > 0)) = false,
     (decide (g4 (mM a b / MM) > 0)) = false,
     (decide (g5 (mM a b / MM) > 0)) = false,
     (decide (g6 (mM a b / MM) > 0)) = false,
     D1P [.agg #[.int .u64 (g0 (mM a b)), .int .u64 (g1 (mM a b)), .int .u64 (g2 (mM a b)), .int .u64 (g3 (mM a b)), .int .u64 (g4 (mM a b)), .int .u64 (g5 (mM a b)), .int .u64 (g6 (mM a b)), .int .u64 (g7 (mM a b))]],
     P1 [W a],
     P1 [W b],
     ((decide (tI (W a) < 0)) == (decide (tI (W b) < 0))) = false,
     P1 [W (dn (Dg (mM a b)))],
     (decide (g7 (mM a b / MM) > 0)) = false,
     (!(weq (dn (Dg (mM a b))) 0)) = true,
     P1 [W (-tI (W (dn (Dg (mM a b)))))]]) := by kernel_rfl

theorem mul_run10 (a b : Int) : runF P F6 1 45 [W a, W b] (lits 9 (.b false :: (lits 4 (.b false :: (lits 4 (.b false :: (lits 4 (.b false :: (lits 4 (.b false :: (lits 4 (.b false :: (lits 4 (.b false :: (.lit :: (.lit :: (.b false :: (.b false :: (.b false :: []))))))))))))))))))) =
  some (.tuple #[W (-tI (W (dn (Dg (mM a b))))), .bool false],
    [P1 [W a],
     P1 [W b],
     timesP [Dg (absI (tI (W a))), Dg (absI (tI (W b)))],
     (decide (g0 (mM a b / MM) > 0)) = false,
     (decide (g1 (mM a b / MM) > 0)) = false,
     (decide (g2 (mM a b / MM) > 0)) = false,
     (decide (g3 (mM a b / MM) > 0)) = false,
     (decide (g4 (mM a b / MM) > 0)) = false,
     (decide (g5 (mM a b / MM) > 0)) = false,
     (decide (g6 (mM a b / MM) > 0)) = false,
     D1P [.agg #[.int .u64 (g0 (mM a b)), .int .u64 (g1 (mM a b)), .int .u64 (g2 (mM a b)), .int .u64 (g3 (mM a b)), .int .u64 (g4 (mM a b)), .int .u64 (g5 (mM a b)), .int .u64 (g6 (mM a b)), .int .u64 (g7 (mM a b))]],
     P1 [W a],
     P1 [W b],
     ((decide (tI (W a) < 0)) == (decide (tI (W b) < 0))) = false,
     P1 [W (dn (Dg (mM a b)))],
     (decide (g7 (mM a b / MM) > 0)) = false,
     (!(weq (dn (Dg (mM a b))) 0)) = false]) := by kernel_rfl

theorem mul_run11 (a b : Int) : runF P F6 1 45 [W a, W b] (lits 9 (.b false :: (lits 4 (.b false :: (lits 4 (.b false :: (lits 4 (.b false :: (lits 4 (.b false :: (lits 4 (.b false :: (lits 4 (.b false :: (.lit :: (.lit :: (.b true :: (.b false :: [])))))))))))))))))) =
  some (.tuple #[W (dn (Dg (mM a b))), .bool (decide (tI (W (dn (Dg (mM a b)))) < 0))],
    [P1 [W a],
     P1 [W b],
     timesP [Dg (absI (tI (W a))), Dg (absI (tI (W b)))],
     (decide (g0 (mM a b / MM) > 0)) = false,
     (decide (g1 (mM a b / MM) > 0)) = false,
     (decide (g2 (mM a b / MM) > 0)) = false,
     (decide (g3 (mM a b / MM) > 0)) = false,
     (decide (g4 (mM a b / MM) > 0)) = false,
     (decide (g5 (mM a b / MM) > 0)) = false,
     (decide (g6 (mM a b / MM) > 0)) = false,
     D1P [.agg #[.int .u64 (g0 (mM a b)), .int .u64 (g1 (mM a b)), .int .u64 (g2 (mM a b)), .int .u64 (g3 (mM a b)), .int .u64 (g4 (mM a b)), .int .u64 (g5 (mM a b)), .int .u64 (g6 (mM a b)), .int .u64 (g7 (mM a b))]],
     P1 [W a],
     P1 [W b],
     ((decide (tI (W a) < 0)) == (decide (tI (W b) < 0))) = true,
     (decide (g7 (mM a b / MM) > 0)) = false,
     P1 [W (dn (Dg (mM a b)))]]) := by kernel_rfl

theorem mul_run12 (a b : Int) : runF P F6 1 45 [W a, W b] (lits 9 (.b false :: (lits 4 (.b false :: (lits 4 (.b false :: (lits 4 (.b false :: (lits 4 (.b false :: (lits 4 (.b false :: (lits 4 (.b true :: (.lit :: (.lit :: (.b false :: []))))))))))))))))) =
  some (.tuple #[W (-tI (W (dn (Dg (mM a b))))), .bool true],
    [P1 [W a],
     P1 [W b],
     timesP [Dg (absI (tI (W a))), Dg (absI (tI (W b)))],
     (decide (g0 (mM a b / MM) > 0)) = false,
     (decide (g1 (mM a b / MM) > 0)) = false,
     (decide (g2 (mM a b / MM) > 0)) = false,
     (decide (g3 (mM a b / MM) > 0)) = false,
     (decide (g4 (mM a b / MM) > 0)) = false,
     (decide (g5 (mM a b / MM) > 0)) = false,
     (decide (g6 (mM a b / MM) > 0)) = true,
     D1P [.agg #[.int .u64 (g0 (mM a b)), .int .u64 (g1 (mM a b)), .int .u64 (g2 (mM a b)), .int .u64 (g3 (mM a b)), .int .u64 (g4 (mM a b)), .int .u64 (g5 (mM a b)), .int .u64 (g6 (mM a b)), .int .u64 (g7 (mM a b))]],
     P1 [W a],
     P1 [W b],
     ((decide (tI (W a) < 0)) == (decide (tI (W b) < 0))) = false,
     P1 [W (dn (Dg (mM a b)))]]) := by kernel_rfl

theorem mul_run13 (a b : Int) : runF P F6 1 45 [W a, W b] (lits 9 (.b false :: (lits 4 (.b false :: (lits 4 (.b false :: (lits 4 (.b false :: (lits 4 (.b false :: (lits 4 (.b true :: (lits 7 (.b false :: [])))))))))))))) =
  some (.tuple #[W (-tI (W (dn (Dg (mM a b))))), .bool true],
    [P1 [W a],
     P1 [W b],
     timesP [Dg (absI (tI (W a))), Dg (absI (tI (W b)))],
     (decide (g0 (mM a b / MM) > 0)) = false,
     (decide (g1 (mM a b / MM) > 0)) = false,
     (decide (g2 (mM a b / MM) > 0)) = false,
     (decide (g3 (mM a b / MM) > 0)) = false,
     (decide (g4 (mM a b / MM) > 0)) = false,
     (decide (g5 (mM a b / MM) > 0)) = true,
     D1P [.agg #[.int .u64 (g0 (mM a b)), .int .u64 (g1 (mM a b)), .int .u64 (g2 (mM a b)), .int .u64 (g3 (mM a b)), .int .u64 (g4 (mM a b)), .int .u64 (g5 (mM a b)), .int .u64 (g6 (mM a b)), .int .u64 (g7 (mM a b))]],
     P1 [W a],
     P1 [W b],
     ((decide (tI (W a) < 0)) == (decide (tI (W b) < 0))) = false,
     P1 [W (dn (Dg (mM a b)))]]) := by kernel_rfl

theorem mul_run14 (a b : Int) : runF P F6 1 45 [W a, W b] (lits 9 (.b false :: (lits 4 (.b false :: (lits 4 (.b false :: (lits 4 (.b false :: (lits 4 (.b true :: (lits 12 (.b false :: [])))))))))))) =
  some (.tuple #[W (-tI (W (dn (Dg (mM a b))))), .bool true],
    [P1 [W a],
     P1 [W b],
     timesP [Dg (absI (tI (W a))), Dg (absI (tI (W b)))],
     (decide (g0 (mM a b / MM) > 0)) = false,
     (decide (g1 (mM a b / MM) > 0)) = false,
     (decide (g2 (mM a b / MM) > 0)) = false,
     (decide (g3 (mM a b / MM) > 0)) = false,
     (decide (g4 (mM a b / MM) > 0)) = true,
     D1P [.agg #[.int .u64 (g0 (mM a b)), .int .u64 (g1 (mM a b)), .int .u64 (g2 (mM a b)), .int .u64 (g3 (mM a b)), .int .u64 (g4 (mM a b)), .int .u64 (g5 (mM a b)), .int .u64 (g6 (mM a b)), .int .u64 (g7 (mM a b))]],
     P1 [W a],
     P1 [W b],
     ((decide (tI (W a) < 0)) == (decide (tI (W b) < 0))) = false,
     P1 [W (dn (Dg (mM a b)))]]) := by kernel_rfl

theorem mul_run15 (a b : Int) : runF P F6 1 45 [W a, W b] (lits 9 (.b false :: (lits 4 (.b false :: (lits 4 (.b false :: (lits 4 (.b true :: (lits 17 (.b false :: [])))))))))) =
  some (.tuple #[W (-tI (W (dn (Dg (mM a b))))), .bool true],
    [P1 [W a],
     P1 [W b],
     timesP [Dg (absI (tI (W a))), Dg (absI (tI (W b)))],
     (decide (g0 (mM a b / MM) > 0)) = false,
     (decide (g1 (mM a b / MM) > 0)) = false,
     (decide (g2 (mM a b / MM) > 0)) = false,
     (decide (g3 (mM a b / MM) > 0)) = true,
     D1P [.agg #[.int .u64 (g0 (mM a b)), .int .u64 (g1 (mM a b)), .int .u64 (g2 (mM a b)), .int .u64 (g3 (mM a b)), .int .u64 (g4 (mM a b)), .int .u64 (g5 (mM a b)), .int .u64 (g6 (mM a b)), .int .u64 (g7 (mM a b))]],
     P1 [W a],
     P1 [W b],
     ((decide (tI (W a) < 0)) == (decide (tI (W b) < 0))) = false,
     P1 [W (dn (Dg (mM a b)))]]) := by kernel_rfl

theorem mul_run16 (a b : Int) : runF P F6 1 45 [W a, W b] (lits 9 (.b false :: (lits 4 (.b false :: (lits 4 (.b true :: (lits 22 (.b false :: [])))))))) =
  some (.tuple #[W (-tI (W (dn (Dg (mM a b))))), .bool true],
    [P1 [W a],
     P1 [W b],
     timesP [Dg (absI (tI (W a))), Dg (absI (tI (W b)))],
     (decide (g0 (mM a b / MM) > 0)) = false,
     (decide (g1 (mM a b / MM) > 0)) = false,
     (decide (g2 (mM a b / MM) > 0)) = true,
     D1P [.agg #[.int .u64 (g0 (mM a b)), .int .u64 (g1 (mM a b)), .int .u64 (g2 (mM a b)), .int .u64 (g3 (mM a b)), .int .u64 (g4 (mM a b)), .int .u64 (g5 (mM a b)), .int .u64 (g6 (mM a b)), .int .u64 (g7 (mM a b))]],
     P1 [W a],
     P1 [W b],
     ((decide (tI (W a) < 0)) == (decide (tI (W b) < 0))) = false,
     P1 [W (dn (Dg (mM a b)))]]) := by kernel_rfl

theorem mul_run17 (a b : Int) : runF P F6 1 45 [W a, W b] (lits 9 (.b false :: (lits 4 (.b true :: (lits 27 (.b false :: [])))))) =
  some (.tuple #[W (-tI (W (dn (Dg (mM a b))))), .bool true],
    [P1 [W a],
     P1 [W b],
     timesP [Dg (absI (tI (W a))), Dg (absI (tI (W b)))],
     (decide (g0 (mM a b / MM) > 0)) = false,
     (decide (g1 (mM a b / MM) > 0)) = true,
     D1P [.agg #[.int .u64 (g0 (mM a b)), .int .u64 (g1 (mM a b)), .int .u64 (g2 (mM a b)), .int .u64 (g3 (mM a b)), .int .u64 (g4 (mM a b)), .int .u64 (g5 (mM a b)), .int .u64 (g6 (mM a b)), .int .u64 (g7 (mM a b))]],
     P1 [W a],
     P1 [W b],
     ((decide (tI (W a) < 0)) == (decide (tI (W b) < 0))) = false,
     P1 [W (dn (Dg (mM a b)))]]) := by kernel_rfl

theorem mul_run18 (a b : Int) : runF P F6 1 45 [W a, W b] (lits 9 (.b true :: (lits 32 (.b false :: [])))) =
  some (.tuple #[W (-tI (W (dn (Dg (mM a b))))), .bool true],
    [P1 [W a],
     P1 [W b],
     timesP [Dg (absI (tI (W a))), Dg (absI (tI (W b)))],
     (decide (g0 (mM a b / MM) > 0)) = true,
     D1P [.agg #[.int .u64 (g0 (mM a b)), .int .u64 (g1 (mM a b)), .int .u64 (g2 (mM a b)), .int .u64 (g3 (mM a b)), .int .u64 (g4 (mM a b)), .int .u64 (g5 (mM a b)), .int .u64 (g6 (mM a b)), .int .u64 (g7 (mM a b))]],
     P1 [W a],
     P1 [W b],
     ((decide (tI (W a) < 0)) == (decide (tI (W b) < 0))) = false,
     P1 [W (dn (Dg (mM a b)))]]) := by kernel_rfl

theorem mul_leaf0 (a b : Int)  (q1 : (decide (g0 (mM a b / MM) > 0)) = true) (q2 : ((decide (tI (W a) < 0)) == (decide (tI (W b) < 0))) = true) : Gives P 45 #[W a, W b] (mulV [W a, W b]) := by
  refine gives_of_run mo (mul_run0 a b) (ps_cons (P1_W _) (ps_cons (P1_W _) (ps_cons (timesP_D _ _) (ps_cons q1 (ps_cons (D1P_g (mM a b)) (ps_cons (P1_W _) (ps_cons (P1_W _) (ps_cons q2 ps_nil)))))))) ?_
  simp only [mulV, tI_W, dn_Dg] at *
  exact mul_same_high (m_high a b (g_pos0 q1)) q2

theorem mul_leaf18 (a b : Int)  (q1 : (decide (g0 (mM a b / MM) > 0)) = true) (q2 : ((decide (tI (W a) < 0)) == (decide (tI (W b) < 0))) = false) : Gives P 45 #[W a, W b] (mulV [W a, W b]) := by
  refine gives_of_run mo (mul_run18 a b) (ps_cons (P1_W _) (ps_cons (P1_W _) (ps_cons (timesP_D _ _) (ps_cons q1 (ps_cons (D1P_g (mM a b)) (ps_cons (P1_W _) (ps_cons (P1_W _) (ps_cons q2 (ps_cons (P1_W _) ps_nil))))))))) ?_
  simp only [mulV, tI_W, dn_Dg] at *
  exact mul_diff_high (m_high a b (g_pos0 q1)) q2

theorem mul_leaf1 (a b : Int)  (q1 : (decide (g0 (mM a b / MM) > 0)) = false) (q3 : (decide (g1 (mM a b / MM) > 0)) = true) (q4 : ((decide (tI (W a) < 0)) == (decide (tI (W b) < 0))) = true) : Gives P 45 #[W a, W b] (mulV [W a, W b]) := by
  refine gives_of_run mo (mul_run1 a b) (ps_cons (P1_W _) (ps_cons (P1_W _) (ps_cons (timesP_D _ _) (ps_cons q1 (ps_cons q3 (ps_cons (D1P_g (mM a b)) (ps_cons (P1_W _) (ps_cons (P1_W _) (ps_cons q4 ps_nil))))))))) ?_
  simp only [mulV, tI_W, dn_Dg] at *
  exact mul_same_high (m_high a b (g_pos1 q3)) q4

theorem mul_leaf17 (a b : Int)  (q1 : (decide (g0 (mM a b / MM) > 0)) = false) (q3 : (decide (g1 (mM a b / MM) > 0)) = true) (q4 : ((decide (tI (W a) < 0)) == (decide (tI (W b) < 0))) = false) : Gives P 45 #[W a, W b] (mulV [W a, W b]) := by
  refine gives_of_run mo (mul_run17 a b) (ps_cons (P1_W _) (ps_cons (P1_W _) (ps_cons (timesP_D _ _) (ps_cons q1 (ps_cons q3 (ps_cons (D1P_g (mM a b)) (ps_cons (P1_W _) (ps_cons (P1_W _) (ps_cons q4 (ps_cons (P1_W _) ps_nil)))))))))) ?_
  simp only [mulV, tI_W, dn_Dg] at *
  exact mul_diff_high (m_high a b (g_pos1 q3)) q4

theorem mul_leaf2 (a b : Int)  (q1 : (decide (g0 (mM a b / MM) > 0)) = false) (q3 : (decide (g1 (mM a b / MM) > 0)) = false) (q5 : (decide (g2 (mM a b / MM) > 0)) = true) (q6 : ((decide (tI (W a) < 0)) == (decide (tI (W b) < 0))) = true) : Gives P 45 #[W a, W b] (mulV [W a, W b]) := by
  refine gives_of_run mo (mul_run2 a b) (ps_cons (P1_W _) (ps_cons (P1_W _) (ps_cons (timesP_D _ _) (ps_cons q1 (ps_cons q3 (ps_cons q5 (ps_cons (D1P_g (mM a b)) (ps_cons (P1_W _) (ps_cons (P1_W _) (ps_cons q6 ps_nil)))))))))) ?_
  simp only [mulV, tI_W, dn_Dg] at *
  exact mul_same_high (m_high a b (g_pos2 q5)) q6

theorem mul_leaf16 (a b : Int)  (q1 : (decide (g0 (mM a b / MM) > 0)) = false) (q3 : (decide (g1 (mM a b / MM) > 0)) = false) (q5 : (decide (g2 (mM a b / MM) > 0)) = true) (q6 : ((decide (tI (W a) < 0)) == (decide (tI (W b) < 0))) = false) : Gives P 45 #[W a, W b] (mulV [W a, W b]) := by
  refine gives_of_run mo (mul_run16 a b) (ps_cons (P1_W _) (ps_cons (P1_W _) (ps_cons (timesP_D _ _) (ps_cons q1 (ps_cons q3 (ps_cons q5 (ps_cons (D1P_g (mM a b)) (ps_cons (P1_W _) (ps_cons (P1_W _) (ps_cons q6 (ps_cons (P1_W _) ps_nil))))))))))) ?_
  simp only [mulV, tI_W, dn_Dg] at *
  exact mul_diff_high (m_high a b (g_pos2 q5)) q6

theorem mul_leaf3 (a b : Int)  (q1 : (decide (g0 (mM a b / MM) > 0)) = false) (q3 : (decide (g1 (mM a b / MM) > 0)) = false) (q5 : (decide (g2 (mM a b / MM) > 0)) = false) (q7 : (decide (g3 (mM a b / MM) > 0)) = true) (q8 : ((decide (tI (W a) < 0)) == (decide (tI (W b) < 0))) = true) : Gives P 45 #[W a, W b] (mulV [W a, W b]) := by
  refine gives_of_run mo (mul_run3 a b) (ps_cons (P1_W _) (ps_cons (P1_W _) (ps_cons (timesP_D _ _) (ps_cons q1 (ps_cons q3 (ps_cons q5 (ps_cons q7 (ps_cons (D1P_g (mM a b)) (ps_cons (P1_W _) (ps_cons (P1_W _) (ps_cons q8 ps_nil))))))))))) ?_
  simp only [mulV, tI_W, dn_Dg] at *
  exact mul_same_high (m_high a b (g_pos3 q7)) q8

theorem mul_leaf15 (a b : Int)  (q1 : (decide (g0 (mM a b / MM) > 0)) = false) (q3 : (decide (g1 (mM a b / MM) > 0)) = false) (q5 : (decide (g2 (mM a b / MM) > 0)) = false) (q7 : (decide (g3 (mM a b / MM) > 0)) = true) (q8 : ((decide (tI (W a) < 0)) == (decide (tI (W b) < 0))) = false) : Gives P 45 #[W a, W b] (mulV [W a, W b]) := by
  refine gives_of_run mo (mul_run15 a b) (ps_cons (P1_W _) (ps_cons (P1_W _) (ps_cons (timesP_D _ _) (ps_cons q1 (ps_cons q3 (ps_cons q5 (ps_cons q7 (ps_cons (D1P_g (mM a b)) (ps_cons (P1_W _) (ps_cons (P1_W _) (ps_cons q8 (ps_cons (P1_W _) ps_nil)))))))))))) ?_
  simp only [mulV, tI_W, dn_Dg] at *
  exact mul_diff_high (m_high a b (g_pos3 q7)) q8

theorem mul_leaf4 (a b : Int)  (q1 : (decide (g0 (mM a b / MM) > 0)) = false) (q3 : (decide (g1 (mM a b / MM) > 0)) = false) (q5 : (decide (g2 (mM a b / MM) > 0)) = false) (q7 : (decide (g3 (mM a b / MM) > 0)) = false) (q9 : (decide (g4 (mM a b / MM) > 0)) = true) (q10 : ((decide (tI (W a) < 0)) == (decide (tI (W b) < 0))) = true) : Gives P 45 #[W a, W b] (mulV [W a, W b]) := by
  refine gives_of_run mo (mul_run4 a b) (ps_cons (P1_W _) (ps_cons (P1_W _) (ps_cons (timesP_D _ _) (ps_cons q1 (ps_cons q3 (ps_cons q5 (ps_cons q7 (ps_cons q9 (ps_cons (D1P_g (mM a b)) (ps_cons (P1_W _) (ps_cons (P1_W _) (ps_cons q10 ps_nil)))))))))))) ?_
  simp only [mulV, tI_W, dn_Dg] at *
  exact mul_same_high (m_high a b (g_pos4 q9)) q10

theorem mul_leaf14 (a b : Int)  (q1 : (decide (g0 (mM a b / MM) > 0)) = false) (q3 : (decide (g1 (mM a b / MM) > 0)) = false) (q5 : (decide (g2 (mM a b / MM) > 0)) = false) (q7 : (decide (g3 (mM a b / MM) > 0)) = false) (q9 : (decide (g4 (mM a b / MM) > 0)) = true) (q10 : ((decide (tI (W a) < 0)) == (decide (tI (W b) < 0))) = false) : Gives P 45 #[W a, W b] (mulV [W a, W b]) := by
  refine gives_of_run mo (mul_run14 a b) (ps_cons (P1_W _) (ps_cons (P1_W _) (ps_cons (timesP_D _ _) (ps_cons q1 (ps_cons q3 (ps_cons q5 (ps_cons q7 (ps_cons q9 (ps_cons (D1P_g (mM a b)) (ps_cons (P1_W _) (ps_cons (P1_W _) (ps_cons q10 (ps_cons (P1_W _) ps_nil))))))))))))) ?_
  simp only [mulV, tI_W, dn_Dg] at *
  exact mul_diff_high (m_high a b (g_pos4 q9)) q10

theorem mul_leaf5 (a b : Int)  (q1 : (decide (g0 (mM a b / MM) > 0)) = false) (q3 : (decide (g1 (mM a b / MM) > 0)) = false) (q5 : (decide (g2 (mM a b / MM) > 0)) = false) (q7 : (decide (g3 (mM a b / MM) > 0)) = false) (q9 : (decide (g4 (mM a b / MM) > 0)) = false) (q11 : (decide (g5 (mM a b / MM) > 0)) = true) (q12 : ((decide (tI (W a) < 0)) == (decide (tI (W b) < 0))) = true) : Gives P 45 #[W a, W b] (mulV [W a, W b]) := by
  refine gives_of_run mo (mul_run5 a b) (ps_cons (P1_W _) (ps_cons (P1_W _) (ps_cons (timesP_D _ _) (ps_cons q1 (ps_cons q3 (ps_cons q5 (ps_cons q7 (ps_cons q9 (ps_cons q11 (ps_cons (D1P_g (mM a b)) (ps_cons (P1_W _) (ps_cons (P1_W _) (ps_cons q12 ps_nil))))))))))))) ?_
  simp only [mulV, tI_W, dn_Dg] at *
  exact mul_same_high (m_high a b (g_pos5 q11)) q12

theorem mul_leaf13 (a b : Int)  (q1 : (decide (g0 (mM a b / MM) > 0)) = false) (q3 : (decide (g1 (mM a b / MM) > 0)) = false) (q5 : (decide (g2 (mM a b / MM) > 0)) = false) (q7 : (decide (g3 (mM a b / MM) > 0)) = false) (q9 : (decide (g4 (mM a b / MM) > 0)) = false) (q11 : (decide (g5 (mM a b / MM) > 0)) = true) (q12 : ((decide (tI (W a) < 0)) == (decide (tI (W b) < 0))) = false) : Gives P 45 #[W a, W b] (mulV [W a, W b]) := by
  refine gives_of_run mo (mul_run13 a b) (ps_cons (P1_W _) (ps_cons (P1_W _) (ps_cons (timesP_D _ _) (ps_cons q1 (ps_cons q3 (ps_cons q5 (ps_cons q7 (ps_cons q9 (ps_cons q11 (ps_cons (D1P_g (mM a b)) (ps_cons (P1_W _) (ps_cons (P1_W _) (ps_cons q12 (ps_cons (P1_W _) ps_nil)))))))))))))) ?_
  simp only [mulV, tI_W, dn_Dg] at *
  exact mul_diff_high (m_high a b (g_pos5 q11)) q12

theorem mul_leaf6 (a b : Int)  (q1 : (decide (g0 (mM a b / MM) > 0)) = false) (q3 : (decide (g1 (mM a b / MM) > 0)) = false) (q5 : (decide (g2 (mM a b / MM) > 0)) = false) (q7 : (decide (g3 (mM a b / MM) > 0)) = false) (q9 : (decide (g4 (mM a b / MM) > 0)) = false) (q11 : (decide (g5 (mM a b / MM) > 0)) = false) (q13 : (decide (g6 (mM a b / MM) > 0)) = true) (q14 : ((decide (tI (W a) < 0)) == (decide (tI (W b) < 0))) = true) : Gives P 45 #[W a, W b] (mulV [W a, W b]) := by
  refine gives_of_run mo (mul_run6 a b) (ps_cons (P1_W _) (ps_cons (P1_W _) (ps_cons (timesP_D _ _) (ps_cons q1 (ps_cons q3 (ps_cons q5 (ps_cons q7 (ps_cons q9 (ps_cons q11 (ps_cons q13 (ps_cons (D1P_g (mM a b)) (ps_cons (P1_W _) (ps_cons (P1_W _) (ps_cons q14 ps_nil)))))))))))))) ?_
  simp only [mulV, tI_W, dn_Dg] at *
  exact mul_same_high (m_high a b (g_pos6 q13)) q14

theorem mul_leaf12 (a b : Int)  (q1 : (decide (g0 (mM a b / MM) > 0)) = false) (q3 : (decide (g1 (mM a b / MM) > 0)) = false) (q5 : (decide (g2 (mM a b / MM) > 0)) = false) (q7 : (decide (g3 (mM a b / MM) > 0)) = false) (q9 : (decide (g4 (mM a b / MM) > 0)) = false) (q11 : (decide (g5 (mM a b / MM) > 0)) = false) (q13 : (decide (g6 (mM a b / MM) > 0)) = true) (q14 : ((decide (tI (W a) < 0)) == (decide (tI (W b) < 0))) = false) : Gives P 45 #[W a, W b] (mulV [W a, W b]) := by
  refine gives_of_run mo (mul_run12 a b) (ps_cons (P1_W _) (ps_cons (P1_W _) (ps_cons (timesP_D _ _) (ps_cons q1 (ps_cons q3 (ps_cons q5 (ps_cons q7 (ps_cons q9 (ps_cons q11 (ps_cons q13 (ps_cons (D1P_g (mM a b)) (ps_cons (P1_W _) (ps_cons (P1_W _) (ps_cons q14 (ps_cons (P1_W _) ps_nil))))))))))))))) ?_
  simp only [mulV, tI_W, dn_Dg] at *
  exact mul_diff_high (m_high a b (g_pos6 q13)) q14

theorem mul_leaf7 (a b : Int)  (q1 : (decide (g0 (mM a b / MM) > 0)) = false) (q3 : (decide (g1 (mM a b / MM) > 0)) = false) (q5 : (decide (g2 (mM a b / MM) > 0)) = false) (q7 : (decide (g3 (mM a b / MM) > 0)) = false) (q9 : (decide (g4 (mM a b / MM) > 0)) = false) (q11 : (decide (g5 (mM a b / MM) > 0)) = false) (q13 : (decide (g6 (mM a b / MM) > 0)) = false) (q15 : ((decide (tI (W a) < 0)) == (decide (tI (W b) < 0))) = true) (q16 : (decide (g7 (mM a b / MM) > 0)) = true) : Gives P 45 #[W a, W b] (mulV [W a, W b]) := by
  refine gives_of_run mo (mul_run7 a b) (ps_cons (P1_W _) (ps_cons (P1_W _) (ps_cons (timesP_D _ _) (ps_cons q1 (ps_cons q3 (ps_cons q5 (ps_cons q7 (ps_cons q9 (ps_cons q11 (ps_cons q13 (ps_cons (D1P_g (mM a b)) (ps_cons (P1_W _) (ps_cons (P1_W _) (ps_cons q15 (ps_cons q16 ps_nil))))))))))))))) ?_
  simp only [mulV, tI_W, dn_Dg] at *
  exact mul_same_high (m_high a b (g_pos7 q16)) q15

theorem mul_leaf11 (a b : Int)  (q1 : (decide (g0 (mM a b / MM) > 0)) = false) (q3 : (decide (g1 (mM a b / MM) > 0)) = false) (q5 : (decide (g2 (mM a b / MM) > 0)) = false) (q7 : (decide (g3 (mM a b / MM) > 0)) = false) (q9 : (decide (g4 (mM a b / MM) > 0)) = false) (q11 : (decide (g5 (mM a b / MM) > 0)) = false) (q13 : (decide (g6 (mM a b / MM) > 0)) = false) (q15 : ((decide (tI (W a) < 0)) == (decide (tI (W b) < 0))) = true) (q16 : (decide (g7 (mM a b / MM) > 0)) = false) : Gives P 45 #[W a, W b] (mulV [W a, W b]) := by
  refine gives_of_run mo (mul_run11 a b) (ps_cons (P1_W _) (ps_cons (P1_W _) (ps_cons (timesP_D _ _) (ps_cons q1 (ps_cons q3 (ps_cons q5 (ps_cons q7 (ps_cons q9 (ps_cons q11 (ps_cons q13 (ps_cons (D1P_g (mM a b)) (ps_cons (P1_W _) (ps_cons (P1_W _) (ps_cons q15 (ps_cons q16 (ps_cons (P1_W _) ps_nil)))))))))))))))) ?_
  simp only [mulV, tI_W, dn_Dg] at *
  exact mul_same_low (m_low a b (of_decide_eq_false q1) (of_decide_eq_false q3) (of_decide_eq_false q5) (of_decide_eq_false q7) (of_decide_eq_false q9) (of_decide_eq_false q11) (of_decide_eq_false q13) (of_decide_eq_false q16)) q15

theorem mul_leaf8 (a b : Int)  (q1 : (decide (g0 (mM a b / MM) > 0)) = false) (q3 : (decide (g1 (mM a b / MM) > 0)) = false) (q5 : (decide (g2 (mM a b / MM) > 0)) = false) (q7 : (decide (g3 (mM a b / MM) > 0)) = false) (q9 : (decide (g4 (mM a b / MM) > 0)) = false) (q11 : (decide (g5 (mM a b / MM) > 0)) = false) (q13 : (decide (g6 (mM a b / MM) > 0)) = false) (q15 : ((decide (tI (W a) < 0)) == (decide (tI (W b) < 0))) = false) (q17 : (decide (g7 (mM a b / MM) > 0)) = true) : Gives P 45 #[W a, W b] (mulV [W a, W b]) := by
  refine gives_of_run mo (mul_run8 a b) (ps_cons (P1_W _) (ps_cons (P1_W _) (ps_cons (timesP_D _ _) (ps_cons q1 (ps_cons q3 (ps_cons q5 (ps_cons q7 (ps_cons q9 (ps_cons q11 (ps_cons q13 (ps_cons (D1P_g (mM a b)) (ps_cons (P1_W _) (ps_cons (P1_W _) (ps_cons q15 (ps_cons (P1_W _) (ps_cons q17 ps_nil)))))))))))))))) ?_
  simp only [mulV, tI_W, dn_Dg] at *
  exact mul_diff_high (m_high a b (g_pos7 q17)) q15

theorem mul_leaf9 (a b : Int)  (q1 : (decide (g0 (mM a b / MM) > 0)) = false) (q3 : (decide (g1 (mM a b / MM) > 0)) = false) (q5 : (decide (g2 (mM a b / MM) > 0)) = false) (q7 : (decide (g3 (mM a b / MM) > 0)) = false) (q9 : (decide (g4 (mM a b / MM) > 0)) = false) (q11 : (decide (g5 (mM a b / MM) > 0)) = false) (q13 : (decide (g6 (mM a b / MM) > 0)) = false) (q15 : ((decide (tI (W a) < 0)) == (decide (tI (W b) < 0))) = false) (q17 : (decide (g7 (mM a b / MM) > 0)) = false) (q18 : (!(weq (dn (Dg (mM a b))) 0)) = true) : Gives P 45 #[W a, W b] (mulV [W a, W b]) := by
  refine gives_of_run mo (mul_run9 a b) (ps_cons (P1_W _) (ps_cons (P1_W _) (ps_cons (timesP_D _ _) (ps_cons q1 (ps_cons q3 (ps_cons q5 (ps_cons q7 (ps_cons q9 (ps_cons q11 (ps_cons q13 (ps_cons (D1P_g (mM a b)) (ps_cons (P1_W _) (ps_cons (P1_W _) (ps_cons q15 (ps_cons (P1_W _) (ps_cons q17 (ps_cons q18 (ps_cons (P1_W _) ps_nil)))))))))))))))))) ?_
  simp only [mulV, tI_W, dn_Dg] at *
  exact mul_diff_low (m_low a b (of_decide_eq_false q1) (of_decide_eq_false q3) (of_decide_eq_false q5) (of_decide_eq_false q7) (of_decide_eq_false q9) (of_decide_eq_false q11) (of_decide_eq_false q13) (of_decide_eq_false q17)) q15 q18

theorem mul_leaf10 (a b : Int)  (q1 : (decide (g0 (mM a b / MM) > 0)) = false) (q3 : (decide (g1 (mM a b / MM) > 0)) = false) (q5 : (decide (g2 (mM a b / MM) > 0)) = false) (q7 : (decide (g3 (mM a b / MM) > 0)) = false) (q9 : (decide (g4 (mM a b / MM) > 0)) = false) (q11 : (decide (g5 (mM a b / MM) > 0)) = false) (q13 : (decide (g6 (mM a b / MM) > 0)) = false) (q15 : ((decide (tI (W a) < 0)) == (decide (tI (W b) < 0))) = false) (q17 : (decide (g7 (mM a b / MM) > 0)) = false) (q18 : (!(weq (dn (Dg (mM a b))) 0)) = false) : Gives P 45 #[W a, W b] (mulV [W a, W b]) := by
  refine gives_of_run mo (mul_run10 a b) (ps_cons (P1_W _) (ps_cons (P1_W _) (ps_cons (timesP_D _ _) (ps_cons q1 (ps_cons q3 (ps_cons q5 (ps_cons q7 (ps_cons q9 (ps_cons q11 (ps_cons q13 (ps_cons (D1P_g (mM a b)) (ps_cons (P1_W _) (ps_cons (P1_W _) (ps_cons q15 (ps_cons (P1_W _) (ps_cons q17 (ps_cons q18 ps_nil))))))))))))))))) ?_
  simp only [mulV, tI_W, dn_Dg] at *
  exact mul_diff_zero (m_low a b (of_decide_eq_false q1) (of_decide_eq_false q3) (of_decide_eq_false q5) (of_decide_eq_false q7) (of_decide_eq_false q9) (of_decide_eq_false q11) (of_decide_eq_false q13) (of_decide_eq_false q17)) q15 q18

theorem mul_gives (args : List Value) (h : P2 args) : Gives P 45 args.toArray (mulV args) := by
  unfold P2 at h
  split at h
  · obtain ⟨⟨a, rfl⟩, ⟨b, rfl⟩⟩ := h
    cases q1 : (decide (g0 (mM a b / MM) > 0)) with
    | true =>
      cases q2 : ((decide (tI (W a) < 0)) == (decide (tI (W b) < 0))) with
      | true =>
        exact mul_leaf0 a b  q1 q2
      | false =>
        exact mul_leaf18 a b  q1 q2
    | false =>
      cases q3 : (decide (g1 (mM a b / MM) > 0)) with
      | true =>
        cases q4 : ((decide (tI (W a) < 0)) == (decide (tI (W b) < 0))) with
        | true =>
          exact mul_leaf1 a b  q1 q3 q4
        | false =>
          exact mul_leaf17 a b  q1 q3 q4
      | false =>
        cases q5 : (decide (g2 (mM a b / MM) > 0)) with
        | true =>
          cases q6 : ((decide (tI (W a) < 0)) == (decide (tI (W b) < 0))) with
          | true =>
            exact mul_leaf2 a b  q1 q3 q5 q6
          | false =>
            exact mul_leaf16 a b  q1 q3 q5 q6
        | false =>
          cases q7 : (decide (g3 (mM a b / MM) > 0)) with
          | true =>
            cases q8 : ((decide (tI (W a) < 0)) == (decide (tI (W b) < 0))) with
            | true =>
              exact mul_leaf3 a b  q1 q3 q5 q7 q8
            | false =>
              exact mul_leaf15 a b  q1 q3 q5 q7 q8
          | false =>
            cases q9 : (decide (g4 (mM a b / MM) > 0)) with
            | true =>
              cases q10 : ((decide (tI (W a) < 0)) == (decide (tI (W b) < 0))) with
              | true =>
                exact mul_leaf4 a b  q1 q3 q5 q7 q9 q10
              | false =>
                exact mul_leaf14 a b  q1 q3 q5 q7 q9 q10
            | false =>
              cases q11 : (decide (g5 (mM a b / MM) > 0)) with
              | true =>
                cases q12 : ((decide (tI (W a) < 0)) == (decide (tI (W b) < 0))) with
                | true =>
                  exact mul_leaf5 a b  q1 q3 q5 q7 q9 q11 q12
                | false =>
                  exact mul_leaf13 a b  q1 q3 q5 q7 q9 q11 q12
              | false =>
                cases q13 : (decide (g6 (mM a b / MM) > 0)) with
                | true =>
                  cases q14 : ((decide (tI (W a) < 0)) == (decide (tI (W b) < 0))) with
                  | true =>
                    exact mul_leaf6 a b  q1 q3 q5 q7 q9 q11 q13 q14
                  | false =>
                    exact mul_leaf12 a b  q1 q3 q5 q7 q9 q11 q13 q14
                | false =>
                  cases q15 : ((decide (tI (W a) < 0)) == (decide (tI (W b) < 0))) with
                  | true =>
                    cases q16 : (decide (g7 (mM a b / MM) > 0)) with
                    | true =>
                      exact mul_leaf7 a b  q1 q3 q5 q7 q9 q11 q13 q15 q16
                    | false =>
                      exact mul_leaf11 a b  q1 q3 q5 q7 q9 q11 q13 q15 q16
                  | false =>
                    cases q17 : (decide (g7 (mM a b / MM) > 0)) with
                    | true =>
                      exact mul_leaf8 a b  q1 q3 q5 q7 q9 q11 q13 q15 q17
                    | false =>
                      cases q18 : (!(weq (dn (Dg (mM a b))) 0)) with
                      | true =>
                        exact mul_leaf9 a b  q1 q3 q5 q7 q9 q11 q13 q15 q17 q18
                      | false =>
                        exact mul_leaf10 a b  q1 q3 q5 q7 q9 q11 q13 q15 q17 q18
  · exact h.elim
noncomputable def mul : Ctr P := ⟨45, P2, mulV, mul_gives⟩

/-- The document's functions of wide numbers, by what they say of whole numbers. -/
noncomputable def refC : List (Ctr P) := [of, int, neg, add, sub, mul, cmp, sign]
end Go.Rd
