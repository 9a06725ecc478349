/-
  Contracts of package wide's functions, fourth part: Mul (printed by gen_mul2.py).
-/
import Derived.Test.YtjfcndiodbaejaaDoorWideC
set_option maxRecDepth 100000
namespace Go.Wd
open Go Go.RowKit Go.Sx Go.Nm Go.Proofs

noncomputable def E4 : Env P := ⟨[add64, low, plus, not, of, add, sub, neg, mul64], [], 10, []⟩
def ng (n : Int) : Int := -tI (W n)
def mulZ (a b : Int) : Bool := !((n00 a b == 0) && ((n10 a b == 0) && ((n20 a b == 0) && (n30 a b == 0))))
def mulV : List Value → Value
  | [x, y] => .tuple #[W (tI x * tI y), .bool (!inRB (tI x * tI y))]
  | _ => undef
def lits : Nat → List Dec → List Dec
  | 0, l => l
  | k + 1, l => .lit :: lits k l

theorem mul_run_001 (a b : Int) : runF P E4 1 94 [W a, W b] (.b false :: .b false :: lits 66 (.b true :: [.b true])) =
    some (.tuple #[(mulC a b), .bool true], [IsW (W a), IsW (W b), IsW (W a), decide (tI (W a) < 0) = false, IsW (W b), decide (tI (W b) < 0) = false] ++ mulPs a b ++ [(!(decide (tI (W a) < 0) != decide (tI (W b) < 0))) = true, mulO a b = true]) := by kernel_rfl
theorem mul_run_000 (a b : Int) : runF P E4 1 94 [W a, W b] (.b false :: .b false :: lits 66 (.b true :: [.b false])) =
    some (.tuple #[(mulC a b), .bool (decide (tI (mulC a b) < 0))], [IsW (W a), IsW (W b), IsW (W a), decide (tI (W a) < 0) = false, IsW (W b), decide (tI (W b) < 0) = false] ++ mulPs a b ++ [(!(decide (tI (W a) < 0) != decide (tI (W b) < 0))) = true, mulO a b = false, IsW (mulC a b)]) := by kernel_rfl
theorem mul_run_011 (a b : Int) : runF P E4 1 94 [W a, W b] (.b false :: .b true :: lits 66 (.b false :: [.b true, .b false])) =
    some (.tuple #[(W (-tI (mulC a (ng b)))), .bool true], [IsW (W a), IsW (W b), IsW (W a), decide (tI (W a) < 0) = false, IsW (W b), decide (tI (W b) < 0) = true, IsW (W b)] ++ mulPs a (ng b) ++ [(!(decide (tI (W a) < 0) != decide (tI (W b) < 0))) = false, IsW (mulC a (ng b)), mulO a (ng b) = true]) := by kernel_rfl
theorem mul_run_0101 (a b : Int) : runF P E4 1 94 [W a, W b] (.b false :: .b true :: lits 66 (.b false :: [.b false, .b true])) =
    some (.tuple #[(W (-tI (mulC a (ng b)))), .bool (!(decide (tI (W (-tI (mulC a (ng b)))) < 0)))], [IsW (W a), IsW (W b), IsW (W a), decide (tI (W a) < 0) = false, IsW (W b), decide (tI (W b) < 0) = true, IsW (W b)] ++ mulPs a (ng b) ++ [(!(decide (tI (W a) < 0) != decide (tI (W b) < 0))) = false, IsW (mulC a (ng b)), mulO a (ng b) = false, mulZ a (ng b) = true, IsW (W (-tI (mulC a (ng b))))]) := by kernel_rfl
theorem mul_run_0100 (a b : Int) : runF P E4 1 94 [W a, W b] (.b false :: .b true :: lits 66 (.b false :: [.b false, .b false])) =
    some (.tuple #[(W (-tI (mulC a (ng b)))), .bool false], [IsW (W a), IsW (W b), IsW (W a), decide (tI (W a) < 0) = false, IsW (W b), decide (tI (W b) < 0) = true, IsW (W b)] ++ mulPs a (ng b) ++ [(!(decide (tI (W a) < 0) != decide (tI (W b) < 0))) = false, IsW (mulC a (ng b)), mulO a (ng b) = false, mulZ a (ng b) = false]) := by kernel_rfl
theorem mul_run_101 (a b : Int) : runF P E4 1 94 [W a, W b] (.b true :: .b false :: lits 66 (.b false :: [.b true, .b false])) =
    some (.tuple #[(W (-tI (mulC (ng a) b))), .bool true], [IsW (W a), IsW (W b), IsW (W a), decide (tI (W a) < 0) = true, IsW (W a), IsW (W b), decide (tI (W b) < 0) = false] ++ mulPs (ng a) b ++ [(!(decide (tI (W a) < 0) != decide (tI (W b) < 0))) = false, IsW (mulC (ng a) b), mulO (ng a) b = true]) := by kernel_rfl
theorem mul_run_1001 (a b : Int) : runF P E4 1 94 [W a, W b] (.b true :: .b false :: lits 66 (.b false :: [.b false, .b true])) =
    some (.tuple #[(W (-tI (mulC (ng a) b))), .bool (!(decide (tI (W (-tI (mulC (ng a) b))) < 0)))], [IsW (W a), IsW (W b), IsW (W a), decide (tI (W a) < 0) = true, IsW (W a), IsW (W b), decide (tI (W b) < 0) = false] ++ mulPs (ng a) b ++ [(!(decide (tI (W a) < 0) != decide (tI (W b) < 0))) = false, IsW (mulC (ng a) b), mulO (ng a) b = false, mulZ (ng a) b = true, IsW (W (-tI (mulC (ng a) b)))]) := by kernel_rfl
theorem mul_run_1000 (a b : Int) : runF P E4 1 94 [W a, W b] (.b true :: .b false :: lits 66 (.b false :: [.b false, .b false])) =
    some (.tuple #[(W (-tI (mulC (ng a) b))), .bool false], [IsW (W a), IsW (W b), IsW (W a), decide (tI (W a) < 0) = true, IsW (W a), IsW (W b), decide (tI (W b) < 0) = false] ++ mulPs (ng a) b ++ [(!(decide (tI (W a) < 0) != decide (tI (W b) < 0))) = false, IsW (mulC (ng a) b), mulO (ng a) b = false, mulZ (ng a) b = false]) := by kernel_rfl
theorem mul_run_111 (a b : Int) : runF P E4 1 94 [W a, W b] (.b true :: .b true :: lits 66 (.b true :: [.b true])) =
    some (.tuple #[(mulC (ng a) (ng b)), .bool true], [IsW (W a), IsW (W b), IsW (W a), decide (tI (W a) < 0) = true, IsW (W a), IsW (W b), decide (tI (W b) < 0) = true, IsW (W b)] ++ mulPs (ng a) (ng b) ++ [(!(decide (tI (W a) < 0) != decide (tI (W b) < 0))) = true, mulO (ng a) (ng b) = true]) := by kernel_rfl
theorem mul_run_110 (a b : Int) : runF P E4 1 94 [W a, W b] (.b true :: .b true :: lits 66 (.b true :: [.b false])) =
    some (.tuple #[(mulC (ng a) (ng b)), .bool (decide (tI (mulC (ng a) (ng b)) < 0))], [IsW (W a), IsW (W b), IsW (W a), decide (tI (W a) < 0) = true, IsW (W a), IsW (W b), decide (tI (W b) < 0) = true, IsW (W b)] ++ mulPs (ng a) (ng b) ++ [(!(decide (tI (W a) < 0) != decide (tI (W b) < 0))) = true, mulO (ng a) (ng b) = false, IsW (mulC (ng a) (ng b))]) := by kernel_rfl

theorem ps_append {l l' : List Prop} (h : ∀ p ∈ l, p) (h' : ∀ p ∈ l', p) : ∀ p ∈ l ++ l', p := by
  intro p hp
  rcases List.mem_append.1 hp with hp | hp
  · exact h p hp
  · exact h' p hp

theorem orW_zero {x y : Int} (hx : 0 ≤ x ∧ x < BB) (hy : 0 ≤ y ∧ y < BB) : (0 ≤ orW x y ∧ orW x y < BB) ∧ (orW x y = 0 ↔ x = 0 ∧ y = 0) := by
  unfold orW
  rw [wrap_u64, BitVec.toNat_or, BitVec.toNat_ofInt, BitVec.toNat_ofInt]
  simp only [BB] at *
  have ex : (x % ((2 ^ 64 : Nat) : Int)).toNat = x.toNat := by omega
  have ey : (y % ((2 ^ 64 : Nat) : Int)).toNat = y.toNat := by omega
  rw [ex, ey]
  have hlt : x.toNat ||| y.toNat < 2 ^ 64 := Nat.or_lt_two_pow (by omega) (by omega)
  refine ⟨by omega, ?_⟩
  constructor
  · intro h
    have h0 : x.toNat ||| y.toNat = 0 := by omega
    have := Nat.or_eq_zero_iff.1 h0
    omega
  · rintro ⟨rfl, rfl⟩
    rfl

/-- What the words of a product are. -/
structure MulOk (a b q : Int) : Prop where
  ps : ∀ p ∈ mulPs a b, p
  C : mulC a b = W q
  O : mulO a b = decide (MM ≤ q)
  Z : mulZ a b = decide (q % MM ≠ 0)

theorem mulOk (a b : Int) : MulOk a b ((a % MM) * (b % MM)) := by
  obtain ⟨h, hs, r0, r1, r2, r3, r4, r5, r6, r7⟩ := mul_facts a b
  have o1 := orW_zero r4 r5
  have o2 := orW_zero o1.1 r6
  have o3 := orW_zero o2.1 r7
  generalize (a % MM) * (b % MM) = q at *
  refine ⟨h, ?_, ?_, ?_⟩
  · exact W_of r0.1 r0.2 r1.1 r1.2 r2.1 r2.2 r3.1 r3.2 (by simp only [BB, B2, B3, MM] at *; omega)
  · unfold mulO
    rw [Bool.eq_iff_iff, bne_iff_ne, ne_eq, o3.2, o2.2, o1.2, decide_eq_true_iff]
    simp only [BB, B2, B3, MM] at *
    omega
  · unfold mulZ
    rw [Bool.eq_iff_iff, decide_eq_true_iff]
    simp only [Bool.not_eq_true', Bool.and_eq_false_iff, beq_eq_false_iff_ne, ne_eq]
    simp only [BB, B2, B3, MM] at *
    omega

theorem ng_mod {n : Int} (h : bm n < 0) : ng n % MM = -bm n := by
  have hr := bm_range n
  unfold ng InR at *
  rw [tI_W]
  simp only [MM, HH] at *
  omega

theorem pos_mod {n : Int} (h : ¬ bm n < 0) : n % MM = bm n := by
  have hr := bm_range n
  have hm := bm_mod n
  unfold InR at *
  simp only [MM, HH] at *
  omega

theorem abs_bd {x : Int} (h : InR x) : (0 ≤ x → x ≤ HH) ∧ (x < 0 → -x ≤ HH) := by unfold InR at h; simp only [HH] at *; omega

/-- The ways' ends in plain words: the absolute values' product is q. -/
theorem end_same_over {q s : Int} (hq : q = s) (ho : MM ≤ q) : (Value.tuple #[W q, .bool true]) = .tuple #[W s, .bool (!inRB s)] := by
  subst hq
  have : inRB q = false := by unfold inRB; rw [Bool.and_eq_false_iff]; right; rw [decide_eq_false_iff_not]; simp only [MM, HH] at *; omega
  rw [this]; rfl
theorem end_same {q s : Int} (hq : q = s) (h0 : 0 ≤ q) (ho : ¬ MM ≤ q) : (Value.tuple #[W q, .bool (decide (tI (W q) < 0))]) = .tuple #[W s, .bool (!inRB s)] := by
  subst hq
  have : decide (tI (W q) < 0) = !inRB q := by
    rw [tI_W]
    have hm := bm_mod q
    have hr := bm_range q
    unfold inRB InR at *
    rw [Bool.eq_iff_iff]
    simp only [decide_eq_true_eq, Bool.not_eq_true', Bool.and_eq_false_iff, decide_eq_false_iff_not]
    simp only [MM, HH] at *
    omega
  rw [this]
theorem W_neg_bm (q : Int) : W (-tI (W q)) = W (-q) := by
  rw [tI_W]
  exact W_congr (by have := bm_mod q; simp only [MM] at *; omega)
theorem end_diff_over {q s : Int} (hq : -q = s) (ho : MM ≤ q) : (Value.tuple #[W (-tI (W q)), .bool true]) = .tuple #[W s, .bool (!inRB s)] := by
  rw [W_neg_bm]
  subst hq
  have : inRB (-q) = false := by unfold inRB; rw [Bool.and_eq_false_iff]; left; rw [decide_eq_false_iff_not]; simp only [MM, HH] at *; omega
  rw [this]; rfl
theorem end_diff_some {q s : Int} (hq : -q = s) (h0 : 0 ≤ q) (ho : ¬ MM ≤ q) (hz : q % MM ≠ 0) : (Value.tuple #[W (-tI (W q)), .bool (!(decide (tI (W (-tI (W q))) < 0)))]) = .tuple #[W s, .bool (!inRB s)] := by
  rw [W_neg_bm]
  subst hq
  have : decide (tI (W (-q)) < 0) = inRB (-q) := by
    rw [tI_W]
    have hm := bm_mod (-q)
    have hr := bm_range (-q)
    unfold inRB InR at *
    rw [Bool.eq_iff_iff]
    simp only [decide_eq_true_eq, Bool.and_eq_true]
    simp only [MM, HH] at *
    omega
  rw [this]
theorem end_diff_none {q s : Int} (hq : -q = s) (h0 : 0 ≤ q) (ho : ¬ MM ≤ q) (hz : ¬ q % MM ≠ 0) : (Value.tuple #[W (-tI (W q)), .bool false]) = .tuple #[W s, .bool (!inRB s)] := by
  rw [W_neg_bm]
  subst hq
  have : inRB (-q) = true := by
    unfold inRB
    simp only [decide_eq_true_eq, Bool.and_eq_true]
    simp only [MM, HH] at *
    omega
  rw [this]; rfl

theorem mul_gives (args : List Value) (h : P2 args) : Gives P 94 args.toArray (mulV args) := by
  unfold P2 at h
  split at h
  · obtain ⟨⟨a, rfl⟩, ⟨b, rfl⟩⟩ := h
    have ea : tI (W a) = bm a := tI_W a
    have eb : tI (W b) = bm b := tI_W b
    have spec : mulV [W a, W b] = .tuple #[W (bm a * bm b), .bool (!inRB (bm a * bm b))] := by simp only [mulV, ea, eb]
    rw [spec]
    cases ha : decide (tI (W a) < 0) with
    | false =>
      cases hb : decide (tI (W b) < 0) with
      | false =>
        have ha' : ¬ bm a < 0 := by rw [ea] at ha; simpa using ha
        have hb' : ¬ bm b < 0 := by rw [eb] at hb; simpa using hb
        have ok := mulOk a b
        rw [pos_mod ha', pos_mod hb'] at ok
        have h0 : 0 ≤ bm a * bm b := Int.mul_nonneg (by omega) (by omega)
        have hq : bm a * bm b = bm a * bm b := by rfl
        generalize bm a * bm b = q at *
        have hC : IsW (mulC a b) := ⟨_, ok.C⟩
        by_cases hov : MM ≤ q
        · have ho : mulO a b = true := by rw [ok.O]; exact decide_eq_true hov
          refine gives_of_run mo (mul_run_001 a b) (ps_append (ps_append (ps_cons (IsW_W _) (ps_cons (IsW_W _) (ps_cons (IsW_W _) (ps_cons ha (ps_cons (IsW_W _) (ps_cons hb ps_nil)))))) ok.ps) (ps_cons (by rw [ha, hb]; rfl) (ps_cons ho ps_nil))) ?_
          rw [ok.C]
          exact end_same_over hq hov
        · have ho : mulO a b = false := by rw [ok.O]; exact decide_eq_false hov
          refine gives_of_run mo (mul_run_000 a b) (ps_append (ps_append (ps_cons (IsW_W _) (ps_cons (IsW_W _) (ps_cons (IsW_W _) (ps_cons ha (ps_cons (IsW_W _) (ps_cons hb ps_nil)))))) ok.ps) (ps_cons (by rw [ha, hb]; rfl) (ps_cons ho (ps_cons hC ps_nil)))) ?_
          rw [ok.C]
          exact end_same hq h0 hov
      | true =>
        have ha' : ¬ bm a < 0 := by rw [ea] at ha; simpa using ha
        have hb' : bm b < 0 := by rw [eb] at hb; simpa using hb
        have ok := mulOk a (ng b)
        rw [pos_mod ha', ng_mod hb'] at ok
        have h0 : 0 ≤ bm a * (-bm b) := Int.mul_nonneg (by omega) (by omega)
        have hq : -(bm a * (-bm b)) = bm a * bm b := by rw [Int.mul_neg, Int.neg_neg]
        generalize bm a * (-bm b) = q at *
        have hC : IsW (mulC a (ng b)) := ⟨_, ok.C⟩
        by_cases hov : MM ≤ q
        · have ho : mulO a (ng b) = true := by rw [ok.O]; exact decide_eq_true hov
          refine gives_of_run mo (mul_run_011 a b) (ps_append (ps_append (ps_cons (IsW_W _) (ps_cons (IsW_W _) (ps_cons (IsW_W _) (ps_cons ha (ps_cons (IsW_W _) (ps_cons hb (ps_cons (IsW_W _) ps_nil))))))) ok.ps) (ps_cons (by rw [ha, hb]; rfl) (ps_cons hC (ps_cons ho ps_nil)))) ?_
          rw [ok.C]
          exact end_diff_over hq hov
        · have ho : mulO a (ng b) = false := by rw [ok.O]; exact decide_eq_false hov
          by_cases hz' : q % MM ≠ 0
          · have hz : mulZ a (ng b) = true := by rw [ok.Z]; exact decide_eq_true hz'
            refine gives_of_run mo (mul_run_0101 a b) (ps_append (ps_append (ps_cons (IsW_W _) (ps_cons (IsW_W _) (ps_cons (IsW_W _) (ps_cons ha (ps_cons (IsW_W _) (ps_cons hb (ps_cons (IsW_W _) ps_nil))))))) ok.ps) (ps_cons (by rw [ha, hb]; rfl) (ps_cons hC (ps_cons ho (ps_cons hz (ps_cons (IsW_W _) ps_nil)))))) ?_
            rw [ok.C]
            exact end_diff_some hq h0 hov hz'
          · have hz : mulZ a (ng b) = false := by rw [ok.Z]; exact decide_eq_false hz'
            refine gives_of_run mo (mul_run_0100 a b) (ps_append (ps_append (ps_cons (IsW_W _) (ps_cons (IsW_W _) (ps_cons (IsW_W _) (ps_cons ha (ps_cons (IsW_W _) (ps_cons hb (ps_cons (IsW_W _) ps_nil))))))) ok.ps) (ps_cons (by rw [ha, hb]; rfl) (ps_cons hC (ps_cons ho (ps_cons hz ps_nil))))) ?_
            rw [ok.C]
            exact end_diff_none hq h0 hov hz'
    | true =>
      cases hb : decide (tI (W b) < 0) with
      | false =>
        have ha' : bm a < 0 := by rw [ea] at ha; simpa using ha
        have hb' : ¬ bm b < 0 := by rw [eb] at hb; simpa using hb
        have ok := mulOk (ng a) b
        rw [ng_mod ha', pos_mod hb'] at ok
        have h0 : 0 ≤ (-bm a) * bm b := Int.mul_nonneg (by omega) (by omega)
        have hq : -((-bm a) * bm b) = bm a * bm b := by rw [Int.neg_mul, Int.neg_neg]
        generalize (-bm a) * bm b = q at *
        have hC : IsW (mulC (ng a) b) := ⟨_, ok.C⟩
        by_cases hov : MM ≤ q
        · have ho : mulO (ng a) b = true := by rw [ok.O]; exact decide_eq_true hov
          refine gives_of_run mo (mul_run_101 a b) (ps_append (ps_append (ps_cons (IsW_W _) (ps_cons (IsW_W _) (ps_cons (IsW_W _) (ps_cons ha (ps_cons (IsW_W _) (ps_cons (IsW_W _) (ps_cons hb ps_nil))))))) ok.ps) (ps_cons (by rw [ha, hb]; rfl) (ps_cons hC (ps_cons ho ps_nil)))) ?_
          rw [ok.C]
          exact end_diff_over hq hov
        · have ho : mulO (ng a) b = false := by rw [ok.O]; exact decide_eq_false hov
          by_cases hz' : q % MM ≠ 0
          · have hz : mulZ (ng a) b = true := by rw [ok.Z]; exact decide_eq_true hz'
            refine gives_of_run mo (mul_run_1001 a b) (ps_append (ps_append (ps_cons (IsW_W _) (ps_cons (IsW_W _) (ps_cons (IsW_W _) (ps_cons ha (ps_cons (IsW_W _) (ps_cons (IsW_W _) (ps_cons hb ps_nil))))))) ok.ps) (ps_cons (by rw [ha, hb]; rfl) (ps_cons hC (ps_cons ho (ps_cons hz (ps_cons (IsW_W _) ps_nil)))))) ?_
            rw [ok.C]
            exact end_diff_some hq h0 hov hz'
          · have hz : mulZ (ng a) b = false := by rw [ok.Z]; exact decide_eq_false hz'
            refine gives_of_run mo (mul_run_1000 a b) (ps_append (ps_append (ps_cons (IsW_W _) (ps_cons (IsW_W _) (ps_cons (IsW_W _) (ps_cons ha (ps_cons (IsW_W _) (ps_cons (IsW_W _) (ps_cons hb ps_nil))))))) ok.ps) (ps_cons (by rw [ha, hb]; rfl) (ps_cons hC (ps_cons ho (ps_cons hz ps_nil))))) ?_
            rw [ok.C]
            exact end_diff_none hq h0 hov hz'
      | true =>
        have ha' : bm a < 0 := by rw [ea] at ha; simpa using ha
        have hb' : bm b < 0 := by rw [eb] at hb; simpa using hb
        have ok := mulOk (ng a) (ng b)
        rw [ng_mod ha', ng_mod hb'] at ok
        have h0 : 0 ≤ (-bm a) * (-bm b) := Int.mul_nonneg (by omega) (by omega)
        have hq : (-bm a) * (-bm b) = bm a * bm b := by rw [Int.neg_mul_neg]
        generalize (-bm a) * (-bm b) = q at *
        have hC : IsW (mulC (ng a) (ng b)) := ⟨_, ok.C⟩
        by_cases hov : MM ≤ q
        · have ho : mulO (ng a) (ng b) = true := by rw [ok.O]; exact decide_eq_true hov
          refine gives_of_run mo (mul_run_111 a b) (ps_append (ps_append (ps_cons (IsW_W _) (ps_cons (IsW_W _) (ps_cons (IsW_W _) (ps_cons ha (ps_cons (IsW_W _) (ps_cons (IsW_W _) (ps_cons hb (ps_cons (IsW_W _) ps_nil)))))))) ok.ps) (ps_cons (by rw [ha, hb]; rfl) (ps_cons ho ps_nil))) ?_
          rw [ok.C]
          exact end_same_over hq hov
        · have ho : mulO (ng a) (ng b) = false := by rw [ok.O]; exact decide_eq_false hov
          refine gives_of_run mo (mul_run_110 a b) (ps_append (ps_append (ps_cons (IsW_W _) (ps_cons (IsW_W _) (ps_cons (IsW_W _) (ps_cons ha (ps_cons (IsW_W _) (ps_cons (IsW_W _) (ps_cons hb (ps_cons (IsW_W _) ps_nil)))))))) ok.ps) (ps_cons (by rw [ha, hb]; rfl) (ps_cons ho (ps_cons hC ps_nil)))) ?_
          rw [ok.C]
          exact end_same hq h0 hov
  · exact h.elim

noncomputable def mul : Ctr P := ⟨94, P2, mulV, mul_gives⟩
end Go.Wd
