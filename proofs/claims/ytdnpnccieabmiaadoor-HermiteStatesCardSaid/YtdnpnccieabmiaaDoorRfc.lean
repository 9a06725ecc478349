/-
  Contracts of gyreref03, first part: plain. Printed by ref3.py.
-/
import Derived.Test.YtdnpnccieabmiaaDoorQtb
set_option maxRecDepth 100000
namespace Go.R3
open Go Go.RowKit Go.Sx Go.Nm Go.Wd Go.Qt Go.Proofs
noncomputable def Z0 : Env P := ⟨Rd.refC, [], 10, []⟩
def oneV : List Value → Value := fun _ => W 1
def leastV : List Value → Value := fun _ => W (-57896044618658097711785492504343953926634992332820282019728792003956564819968)
def two (f : Int → Int → Int) : List Value → Value
  | [x, y] => W (f (tI x) (tI y))
  | _ => undef
def negW : List Value → Value
  | [x] => W (-tI x)
  | _ => undef
theorem add_run (a b : Int) : runF P Z0 1 63 [W a, W b] [] = some (W (tI (W a) + tI (W b)), [P2 [W a, W b]]) := by kernel_rfl
theorem add_gives (args : List Value) (h : P2 args) : Gives P 63 args.toArray (two (· + ·) args) := by
  unfold P2 at h
  split at h
  · obtain ⟨⟨a, rfl⟩, ⟨b, rfl⟩⟩ := h
    exact gives_of_run mo (add_run _ _) (ps_cons (P2_W _ _) ps_nil) rfl
  · exact h.elim
noncomputable def add : Ctr P := ⟨63, P2, two (· + ·), add_gives⟩
theorem sub_run (a b : Int) : runF P Z0 1 59 [W a, W b] [] = some (W (tI (W a) - tI (W b)), [P2 [W a, W b]]) := by kernel_rfl
theorem sub_gives (args : List Value) (h : P2 args) : Gives P 59 args.toArray (two (· - ·) args) := by
  unfold P2 at h
  split at h
  · obtain ⟨⟨a, rfl⟩, ⟨b, rfl⟩⟩ := h
    exact gives_of_run mo (sub_run _ _) (ps_cons (P2_W _ _) ps_nil) rfl
  · exact h.elim
noncomputable def sub : Ctr P := ⟨59, P2, two (· - ·), sub_gives⟩
theorem neg_run (a : Int) : runF P Z0 1 61 [W a] [] = some (W (-tI (W a)), [P1 [W a]]) := by kernel_rfl
theorem neg_gives (args : List Value) (h : P1 args) : Gives P 61 args.toArray (negW args) := by
  unfold P1 at h
  split at h
  · obtain ⟨a, rfl⟩ := h
    exact gives_of_run mo (neg_run _) (ps_cons (P1_W _) ps_nil) rfl
  · exact h.elim
noncomputable def neg : Ctr P := ⟨61, P1, negW, neg_gives⟩
theorem one_run  : runF P Z0 1 64 [] [] = some (W 1, [ofP [.int .i64 1]]) := by kernel_rfl
theorem one_gives (args : List Value) (h : noP args) : Gives P 64 args.toArray (oneV args) := by
  unfold noP at h
  split at h
  · skip
    exact gives_of_run mo (one_run ) (ps_cons ⟨by decide, by decide⟩ ps_nil) rfl
  · exact h.elim
noncomputable def one : Ctr P := ⟨64, noP, oneV, one_gives⟩
theorem rleast_run  : runF P Z0 1 78 [] [] = some (W (-57896044618658097711785492504343953926634992332820282019728792003956564819968), []) := by kernel_rfl
theorem rleast_gives (args : List Value) (h : noP args) : Gives P 78 args.toArray (leastV args) := by
  unfold noP at h
  split at h
  · skip
    exact gives_of_run mo (rleast_run ) ps_nil rfl
  · exact h.elim
noncomputable def rleast : Ctr P := ⟨78, noP, leastV, rleast_gives⟩
noncomputable def Z1C : List (Ctr P) := [add, sub, neg, one, rleast] ++ Rd.refC
noncomputable def Z1 : Env P := ⟨Z1C, [], 10, []⟩
noncomputable def b1 : Code := bodyOf (innerOf P 87 0)
noncomputable def b2 : Code := bodyOf (innerOf P 87 1)
def s1 (a b : Int) (n : Nat) : St := ⟨[(6, .row 900), (2, .ptr 0 0), (4, .ptr 2 0), (5, .ptr 3 0)], [(0, (.whole (W a), 56)), (2, (.whole (W 0), 56)), (3, (.whole (W 0), 56))], [], [900, 5, 3, 2, 1, 0], [(900, some ⟨56, 4, n, fun i => W (b * 2 ^ i), true⟩)]⟩
def s2 (b : Int) (n : Nat) (i x q : Int) : St := ⟨[(10, .v (.int .i64 i)), (9, .ptr 7 0), (6, .row 901), (2, .ptr 0 0), (4, .ptr 2 0), (5, .ptr 3 0)], [(7, (.whole (W q), 56)), (0, (.whole (W x), 56)), (2, (.whole (W 0), 56)), (3, (.whole (W 0), 56))], [], [901, 7, 900, 5, 3, 2, 1, 0], [(901, some ⟨56, 4, n, fun i => W (b * 2 ^ i), true⟩)]⟩
def f2 (b : Int) (n : Nat) (x q : Int) : St := ⟨[(9, .ptr 7 0), (6, .row 901), (2, .ptr 0 0), (4, .ptr 2 0), (5, .ptr 3 0)], [(7, (.whole (W q), 56)), (0, (.whole (W x), 56)), (2, (.whole (W 0), 56)), (3, (.whole (W 0), 56))], [], [901, 7, 900, 5, 3, 2, 1, 0], [(901, some ⟨56, 4, n, fun i => W (b * 2 ^ i), true⟩)]⟩
theorem r1o (a b : Int) (n : Nat) (k : Nat) : stepF P Z1 2 68 b1 (s1 a b n) (.n (n - 1) :: (.n (n - 1) :: (.b true :: []))) 1000 (fun _ => some (s1 a b n)) k =
  some (.exit 0, k, [IntKind.i64.wrap (↑n - 1) = ↑(n - 1), n - 1 < n, n - 1 < n, IntKind.i64.wrap (↑n - 1) = ↑(n - 1), n - 1 < n, n - 1 < n, P2 [W (b * 2 ^ (n - 1)), W (b * 2 ^ (n - 1))], (!inRB (tI (W (b * 2 ^ (n - 1))) + tI (W (b * 2 ^ (n - 1))))) = true, (.row 900 : SV) = .row 900, (.ptr 0 0 : SV) = .ptr 0 0, (.ptr 2 0 : SV) = .ptr 2 0, (.ptr 3 0 : SV) = .ptr 3 0, (W a : Value) = W a, (W 0 : Value) = W 0, (W 0 : Value) = W 0, n = n, ∀ j, j < n → W (b * 2 ^ j) = W (b * 2 ^ j)]) := by kernel_rfl
theorem r1e (a b : Int) (n : Nat) (k : Nat) : stepF P Z1 2 68 b1 (s1 a b n) (.n (n - 1) :: (.n (n - 1) :: (.b false :: (.b true :: [])))) 1000 (fun _ => some (s1 a b n)) k =
  some (.exit 0, k, [IntKind.i64.wrap (↑n - 1) = ↑(n - 1), n - 1 < n, n - 1 < n, IntKind.i64.wrap (↑n - 1) = ↑(n - 1), n - 1 < n, n - 1 < n, P2 [W (b * 2 ^ (n - 1)), W (b * 2 ^ (n - 1))], (!inRB (tI (W (b * 2 ^ (n - 1))) + tI (W (b * 2 ^ (n - 1))))) = false, P2 [W (tI (W (b * 2 ^ (n - 1))) + tI (W (b * 2 ^ (n - 1)))), W a], (decide (cmp3 (tI (W (tI (W (b * 2 ^ (n - 1))) + tI (W (b * 2 ^ (n - 1)))))) (tI (W a)) > 0)) = true, (.row 900 : SV) = .row 900, (.ptr 0 0 : SV) = .ptr 0 0, (.ptr 2 0 : SV) = .ptr 2 0, (.ptr 3 0 : SV) = .ptr 3 0, (W a : Value) = W a, (W 0 : Value) = W 0, (W 0 : Value) = W 0, n = n, ∀ j, j < n → W (b * 2 ^ j) = W (b * 2 ^ j)]) := by kernel_rfl
theorem r1a (a b : Int) (n : Nat) (k : Nat) : stepF P Z1 2 68 b1 (s1 a b n) (.n (n - 1) :: (.n (n - 1) :: (.b false :: (.b false :: [])))) 1000 (fun _ => some (s1 a b (n + 1))) k =
  some (.normal, k, [IntKind.i64.wrap (↑n - 1) = ↑(n - 1), n - 1 < n, n - 1 < n, IntKind.i64.wrap (↑n - 1) = ↑(n - 1), n - 1 < n, n - 1 < n, P2 [W (b * 2 ^ (n - 1)), W (b * 2 ^ (n - 1))], (!inRB (tI (W (b * 2 ^ (n - 1))) + tI (W (b * 2 ^ (n - 1))))) = false, P2 [W (tI (W (b * 2 ^ (n - 1))) + tI (W (b * 2 ^ (n - 1)))), W a], (decide (cmp3 (tI (W (tI (W (b * 2 ^ (n - 1))) + tI (W (b * 2 ^ (n - 1)))))) (tI (W a)) > 0)) = false, n < 1000000, (.row 1029 : SV) = .row 1029, (.ptr 0 0 : SV) = .ptr 0 0, (.ptr 2 0 : SV) = .ptr 2 0, (.ptr 3 0 : SV) = .ptr 3 0, (W a : Value) = W a, (W 0 : Value) = W 0, (W 0 : Value) = W 0, n + 1 = n + 1, ∀ j, j < n + 1 → (bif Nat.beq j n then W (tI (W (b * 2 ^ (n - 1))) + tI (W (b * 2 ^ (n - 1)))) else W (b * 2 ^ j)) = W (b * 2 ^ j)]) := by kernel_rfl
theorem r2x (b : Int) (n : Nat) (i x q _j y r : Int) (k : Nat) : stepF P Z1 2 68 b2 (s2 b n i x q) (.b false :: []) 1000 (fun _ => some (f2 b n y r)) k =
  some (.exit 2, k, [(decide (i ≥ 0)) = false, (.ptr 7 0 : SV) = .ptr 7 0, (.row 901 : SV) = .row 901, (.ptr 0 0 : SV) = .ptr 0 0, (.ptr 2 0 : SV) = .ptr 2 0, (.ptr 3 0 : SV) = .ptr 3 0, (W q : Value) = W r, (W x : Value) = W y, (W 0 : Value) = W 0, (W 0 : Value) = W 0, n = n, ∀ j, j < n → W (b * 2 ^ j) = W (b * 2 ^ j)]) := by kernel_rfl
theorem r2a (b : Int) (n : Nat) (i x q j y r : Int) (k : Nat) : stepF P Z1 2 68 b2 (s2 b n i x q) (.b true :: (.n i.toNat :: (.b true :: (.n i.toNat :: [])))) 1000 (fun _ => some (s2 b n j y r)) k =
  some (.normal, k, [(decide (i ≥ 0)) = true, P2 [W q, W q], i = ↑i.toNat, i.toNat < n, i.toNat < n, P2 [W (b * 2 ^ i.toNat), W x], (decide (cmp3 (tI (W (b * 2 ^ i.toNat))) (tI (W x)) ≤ 0)) = true, i = ↑i.toNat, i.toNat < n, i.toNat < n, P2 [W x, W (b * 2 ^ i.toNat)], noP [], P2 [W (tI (W q) + tI (W q)), W 1], (.int .i64 (IntKind.i64.wrap (i - 1)) : Value) = .int .i64 j, (.ptr 7 0 : SV) = .ptr 7 0, (.row 901 : SV) = .row 901, (.ptr 0 0 : SV) = .ptr 0 0, (.ptr 2 0 : SV) = .ptr 2 0, (.ptr 3 0 : SV) = .ptr 3 0, (W (tI (W (tI (W q) + tI (W q))) + tI (W 1)) : Value) = W r, (W (tI (W x) - tI (W (b * 2 ^ i.toNat))) : Value) = W y, (W 0 : Value) = W 0, (W 0 : Value) = W 0, n = n, ∀ j, j < n → W (b * 2 ^ j) = W (b * 2 ^ j)]) := by kernel_rfl
theorem r2b (b : Int) (n : Nat) (i x q j y r : Int) (k : Nat) : stepF P Z1 2 68 b2 (s2 b n i x q) (.b true :: (.n i.toNat :: (.b false :: []))) 1000 (fun _ => some (s2 b n j y r)) k =
  some (.normal, k, [(decide (i ≥ 0)) = true, P2 [W q, W q], i = ↑i.toNat, i.toNat < n, i.toNat < n, P2 [W (b * 2 ^ i.toNat), W x], (decide (cmp3 (tI (W (b * 2 ^ i.toNat))) (tI (W x)) ≤ 0)) = false, (.int .i64 (IntKind.i64.wrap (i - 1)) : Value) = .int .i64 j, (.ptr 7 0 : SV) = .ptr 7 0, (.row 901 : SV) = .row 901, (.ptr 0 0 : SV) = .ptr 0 0, (.ptr 2 0 : SV) = .ptr 2 0, (.ptr 3 0 : SV) = .ptr 3 0, (W (tI (W q) + tI (W q)) : Value) = W r, (W x : Value) = W y, (W 0 : Value) = W 0, (W 0 : Value) = W 0, n = n, ∀ j, j < n → W (b * 2 ^ j) = W (b * 2 ^ j)]) := by kernel_rfl
def K (a b : Int) : Nat := max 1 (bl (a / b)).toNat
section
variable {a b : Int} (ha : 0 ≤ a ∧ a < HH) (hb : 0 < b ∧ b < HH)
def I1 (a b : Int) (n : Nat) : Prop := 1 ≤ n ∧ (n = 1 ∨ b * 2 ^ (n - 1) ≤ a)
include ha hb
theorem i1_facts {n : Nat} (h : I1 a b n) : n ≤ 256 ∧ InR (b * 2 ^ (n - 1)) ∧ b * 2 ^ (n - 1) + b * 2 ^ (n - 1) = b * 2 ^ n ∧ 0 < b * 2 ^ (n - 1) := by
  obtain ⟨h1, h2⟩ := h
  have hp := pow2_pos (n - 1)
  have e : b * 2 ^ (n - 1) + b * 2 ^ (n - 1) = b * 2 ^ n := by
    obtain ⟨m, rfl⟩ : ∃ m, n = m + 1 := ⟨n - 1, by omega⟩
    rw [Nat.add_sub_cancel, Int.pow_succ, ← Int.mul_assoc]; omega
  have h3 : 0 < b * 2 ^ (n - 1) := Int.mul_pos hb.1 hp
  refine ⟨?_, ?_, e, h3⟩
  · rcases h2 with h2 | h2
    · omega
    · have h4 : (2 : Int) ^ (n - 1) ≤ b * 2 ^ (n - 1) := by
        have := Int.mul_le_mul_of_nonneg_right (show (1 : Int) ≤ b by omega) (Int.le_of_lt hp)
        omega
      by_cases h5 : 255 ≤ n - 1
      · have h6 : (2 : Int) ^ 255 ≤ 2 ^ (n - 1) := pow2_le h5
        have h7 : (2 : Int) ^ 255 = HH := by decide
        omega
      · omega
  · rcases h2 with h2 | h2
    · subst h2
      simp only [Nat.sub_self, Int.pow_zero, Int.mul_one]
      unfold InR; omega
    · unfold InR; omega
theorem i1_end {n : Nat} (h : I1 a b n) (h2 : a < b * 2 ^ n) : n = K a b := by
  obtain ⟨h1, h3⟩ := h
  unfold K
  have hp := pow2_pos n
  have h4 : a / b < 2 ^ n := Int.ediv_lt_of_lt_mul hb.1 (by rw [Int.mul_comm]; exact h2)
  have h0 : 0 ≤ a / b := Int.ediv_nonneg ha.1 (by omega)
  rcases h3 with h3 | h3
  · subst h3
    have := bl_le 1 h0 h4
    omega
  · have h5 : 2 ^ (n - 1) ≤ a / b := (Int.le_ediv_iff_mul_le hb.1).2 (by rw [Int.mul_comm]; exact h3)
    have h6 := bl_le n h0 h4
    have h7 := bl_lt h0
    have h8 : (n - 1 : Nat) < (bl (a / b)).toNat := by
      rcases Nat.lt_or_ge (n - 1) (bl (a / b)).toNat with h | h
      · exact h
      · have := pow2_le h; omega
    omega
theorem k_facts : I1 a b (K a b) ∧ a < b * 2 ^ K a b := by
  have h0 : 0 ≤ a / b := Int.ediv_nonneg ha.1 (by omega)
  have e := Int.mul_ediv_add_emod a b
  have r1 := Int.emod_lt_of_pos a hb.1
  have h7 := bl_lt h0
  have hlt : a / b < 2 ^ K a b := by
    have : (2 : Int) ^ (bl (a / b)).toNat ≤ 2 ^ K a b := pow2_le (by unfold K; omega)
    omega
  have hle : a / b + 1 ≤ 2 ^ K a b := by omega
  have := Int.mul_le_mul_of_nonneg_left hle (Int.le_of_lt hb.1)
  rw [Int.mul_add, Int.mul_one] at this
  refine ⟨⟨by unfold K; omega, ?_⟩, by omega⟩
  by_cases h1 : K a b = 1
  · exact .inl h1
  · right
    have h2 : K a b = (bl (a / b)).toNat := by unfold K at *; omega
    have hpos : 0 < a / b := by
      rcases Int.lt_or_eq_of_le h0 with h | h
      · exact h
      · exfalso
        rw [← h] at h2
        have : bl 0 = 0 := rfl
        rw [this] at h2
        unfold K at h1 h2
        omega
    have h3 := (bl_ge hpos).2
    have h4 : (2 : Int) ^ (K a b - 1) ≤ a / b := by
      rw [h2, show (bl (a / b)).toNat - 1 = (bl (a / b) - 1).toNat by omega]
      exact h3
    have h5 := Int.mul_le_mul_of_nonneg_left h4 (Int.le_of_lt hb.1)
    have r0 := Int.emod_nonneg a (b := b) (by omega)
    omega
theorem l1_step (n : Nat) (h : I1 a b n) :
    StepTo P Z1 2 68 b1 (s1 a b n) fun o S1 => (o = .normal ∧ ∃ g', I1 a b g' ∧ 300 - g' < 300 - n ∧ Keeps S1 (s1 a b g')) ∨ (o = .exit 0 ∧ Keeps S1 (s1 a b (K a b))) := by
  obtain ⟨f1, f2, f3, f4⟩ := i1_facts ha hb h
  have hn := h.1
  have w1 : IntKind.i64.wrap ((n : Int) - 1) = ((n - 1 : Nat) : Int) := by rw [wrap_i64_in (by omega) (by omega)]; omega
  have w2 : n - 1 < n := by omega
  have e1 : tI (W (b * 2 ^ (n - 1))) = b * 2 ^ (n - 1) := tI_in f2
  have eI : tI (W (b * 2 ^ (n - 1))) + tI (W (b * 2 ^ (n - 1))) = b * 2 ^ n := by rw [e1, f3]
  have ea : tI (W a) = a := tI_in (by unfold InR; omega)
  have exit : a < b * 2 ^ n → ∀ S1, Keeps S1 (s1 a b n) → (Out.exit 0 = .normal ∧ ∃ g', I1 a b g' ∧ 300 - g' < 300 - n ∧ Keeps S1 (s1 a b g')) ∨ (Out.exit 0 = .exit 0 ∧ Keeps S1 (s1 a b (K a b))) :=
    fun hlt S1 hk => .inr ⟨rfl, by rw [← i1_end ha hb h hlt]; exact hk⟩
  cases ho : (!inRB (tI (W (b * 2 ^ (n - 1))) + tI (W (b * 2 ^ (n - 1))))) with
  | true =>
    have : ¬ InR (b * 2 ^ n) := by
      rw [eI] at ho
      intro hi
      rw [inRB_of hi] at ho
      cases ho
    have hlt : a < b * 2 ^ n := by unfold InR at this; omega
    exact step_run (r1o a b n) (ps_cons w1 (ps_cons w2 (ps_cons w2 (ps_cons w1 (ps_cons w2 (ps_cons w2 (ps_cons (P2_W _ _) (ps_cons ho (ps_cons rfl (ps_cons rfl (ps_cons rfl (ps_cons rfl (ps_cons rfl (ps_cons rfl (ps_cons rfl (ps_cons rfl (ps_cons (fun _ _ => rfl) ps_nil))))))))))))))))) rfl (exit hlt)
  | false =>
    have hi : InR (b * 2 ^ n) := by
      rw [eI] at ho
      exact inRB_iff.1 (by simpa using ho)
    have e2 : tI (W (tI (W (b * 2 ^ (n - 1))) + tI (W (b * 2 ^ (n - 1))))) = b * 2 ^ n := by rw [eI, tI_in hi]
    by_cases hc : a < b * 2 ^ n
    · have hcc : (decide (cmp3 (tI (W (tI (W (b * 2 ^ (n - 1))) + tI (W (b * 2 ^ (n - 1)))))) (tI (W a)) > 0)) = true := by
        rw [e2, ea]
        exact decide_eq_true (by unfold cmp3; omega)
      exact step_run (r1e a b n) (ps_cons w1 (ps_cons w2 (ps_cons w2 (ps_cons w1 (ps_cons w2 (ps_cons w2 (ps_cons (P2_W _ _) (ps_cons ho (ps_cons (P2_W _ _) (ps_cons hcc (ps_cons rfl (ps_cons rfl (ps_cons rfl (ps_cons rfl (ps_cons rfl (ps_cons rfl (ps_cons rfl (ps_cons rfl (ps_cons (fun _ _ => rfl) ps_nil))))))))))))))))))) rfl (exit hc)
    · have hcc : (decide (cmp3 (tI (W (tI (W (b * 2 ^ (n - 1))) + tI (W (b * 2 ^ (n - 1)))))) (tI (W a)) > 0)) = false := by
        rw [e2, ea]
        exact decide_eq_false (by unfold cmp3; omega)
      have hrow : ∀ j, j < n + 1 → (bif Nat.beq j n then W (tI (W (b * 2 ^ (n - 1))) + tI (W (b * 2 ^ (n - 1)))) else W (b * 2 ^ j)) = W (b * 2 ^ j) := by
        intro j _
        cases hj : Nat.beq j n with
        | true => rw [Nat.eq_of_beq_eq_true hj, eI]; rfl
        | false => rfl
      have hin : I1 a b (n + 1) := ⟨by omega, .inr (by rw [Nat.add_sub_cancel]; omega)⟩
      have := (i1_facts ha hb hin).1
      exact step_run (r1a a b n) (ps_cons w1 (ps_cons w2 (ps_cons w2 (ps_cons w1 (ps_cons w2 (ps_cons w2 (ps_cons (P2_W _ _) (ps_cons ho (ps_cons (P2_W _ _) (ps_cons hcc (ps_cons (by omega) (ps_cons rfl (ps_cons rfl (ps_cons rfl (ps_cons rfl (ps_cons rfl (ps_cons rfl (ps_cons rfl (ps_cons rfl (ps_cons hrow ps_nil)))))))))))))))))))) rfl fun S1 hk => .inl ⟨rfl, n + 1, hin, by omega, hk⟩
end
def At2 (a b i x q : Int) : Prop := x = a % (b * 2 ^ (i + 1).toNat) ∧ q = a / (b * 2 ^ (i + 1).toNat)
def I2 (a b : Int) (n : Nat) (g : Int × Int × Int) : Prop := -1 ≤ g.1 ∧ g.1 < n ∧ At2 a b g.1 g.2.1 g.2.2
section
variable {a b : Int} (ha : 0 ≤ a ∧ a < HH) (hb : 0 < b ∧ b < HH)
include ha hb
theorem l2_step (g : Int × Int × Int) (h : I2 a b (K a b) g) :
    StepTo P Z1 2 68 b2 (s2 b (K a b) g.1 g.2.1 g.2.2) fun o S1 => (o = .normal ∧ ∃ g', I2 a b (K a b) g' ∧ (g'.1 + 1).toNat < (g.1 + 1).toNat ∧ Keeps S1 (s2 b (K a b) g'.1 g'.2.1 g'.2.2)) ∨ (o = .exit 2 ∧ Keeps S1 (f2 b (K a b) (a % b) (a / b))) := by
  obtain ⟨i, x, q⟩ := g
  obtain ⟨h1, h2, h3, h4⟩ := h
  have hk := (k_facts ha hb).1
  obtain ⟨k1, k2, _, k4⟩ := i1_facts ha hb hk
  simp only at h1 h2 h3 h4
  by_cases hi : i < 0
  · have e : (i + 1).toNat = 0 := by omega
    rw [e, Int.pow_zero, Int.mul_one] at h3 h4
    subst h3
    subst h4
    have hd : (decide (i ≥ 0)) = false := decide_eq_false (by omega)
    exact step_run (r2x b (K a b) i _ _ 0 (a % b) (a / b)) (ps_cons hd (ps_cons rfl (ps_cons rfl (ps_cons rfl (ps_cons rfl (ps_cons rfl (ps_cons rfl (ps_cons rfl (ps_cons rfl (ps_cons rfl (ps_cons rfl (ps_cons (fun _ _ => rfl) ps_nil)))))))))))) rfl fun S1 hk => .inr ⟨rfl, hk⟩
  have hd : (decide (i ≥ 0)) = true := decide_eq_true (by omega)
  have w1 : i = ((i.toNat : Nat) : Int) := by omega
  have w2 : i.toNat < K a b := by omega
  have e1 : (i + 1).toNat = i.toNat + 1 := by omega
  have e3 : (i - 1 + 1).toNat = i.toNat := by omega
  have em : b * 2 ^ (i.toNat + 1) = 2 * (b * 2 ^ i.toNat) := by rw [Int.pow_succ, ← Int.mul_assoc, Int.mul_comm]
  have hm : 0 < b * 2 ^ i.toNat := Int.mul_pos hb.1 (pow2_pos _)
  have hmle : b * 2 ^ i.toNat ≤ b * 2 ^ (K a b - 1) := Int.mul_le_mul_of_nonneg_left (pow2_le (by omega)) (Int.le_of_lt hb.1)
  have hmR : InR (b * 2 ^ i.toNat) := by unfold InR at *; omega
  rw [e1, em] at h3 h4
  have hq0 : 0 ≤ q := by rw [h4]; exact Int.ediv_nonneg ha.1 (by omega)
  have hx0 : 0 ≤ x := by rw [h3]; exact Int.emod_nonneg a (by omega)
  have hxa : x ≤ a := by rw [h3]; exact emod_le ha.1 (by omega)
  have hqa : a / (b * 2 ^ i.toNat) ≤ a := Int.ediv_le_self _ ha.1
  have hst := div_step (a := a) hm
  rw [← h3, ← h4] at hst
  have ex : tI (W x) = x := tI_in (by unfold InR; omega)
  have em2 : tI (W (b * 2 ^ i.toNat)) = b * 2 ^ i.toNat := tI_in hmR
  have hw : IntKind.i64.wrap (i - 1) = i - 1 := wrap_i64_in (by omega) (by omega)
  by_cases hc : b * 2 ^ i.toNat ≤ x
  · obtain ⟨g1, g2⟩ := hst.1 hc
    have eq1 : tI (W q) = q := tI_in (by unfold InR; omega)
    have eq2 : tI (W (q + q)) = q + q := tI_in (by unfold InR; omega)
    have e11 : tI (W 1) = 1 := tI_in inR_1
    have hcc : (decide (cmp3 (tI (W (b * 2 ^ i.toNat))) (tI (W x)) ≤ 0)) = true := by
      rw [em2, ex]
      exact decide_eq_true (by unfold cmp3; omega)
    exact step_run (r2a b (K a b) i x q (i - 1) (x - b * 2 ^ i.toNat) (q + q + 1)) (ps_cons hd (ps_cons (P2_W _ _) (ps_cons w1 (ps_cons w2 (ps_cons w2 (ps_cons (P2_W _ _) (ps_cons hcc (ps_cons w1 (ps_cons w2 (ps_cons w2 (ps_cons (P2_W _ _) (ps_cons trivial (ps_cons (P2_W _ _) (ps_cons (by rw [hw]) (ps_cons rfl (ps_cons rfl (ps_cons rfl (ps_cons rfl (ps_cons rfl (ps_cons (by rw [eq1, eq2, e11]) (ps_cons (by rw [ex, em2]) (ps_cons rfl (ps_cons rfl (ps_cons rfl (ps_cons (fun _ _ => rfl) ps_nil))))))))))))))))))))))))) rfl fun S1 hk =>
      .inl ⟨rfl, (i - 1, x - b * 2 ^ i.toNat, q + q + 1), ⟨by show -1 ≤ i - 1; omega, by show i - 1 < _; omega, by show x - b * 2 ^ i.toNat = _; rw [e3, g1], by show q + q + 1 = _; rw [e3, g2]; omega⟩, by show (i - 1 + 1).toNat < (i + 1).toNat; omega, hk⟩
  · obtain ⟨g1, g2⟩ := hst.2 hc
    have eq1 : tI (W q) = q := tI_in (by unfold InR; omega)
    have hcc : (decide (cmp3 (tI (W (b * 2 ^ i.toNat))) (tI (W x)) ≤ 0)) = false := by
      rw [em2, ex]
      exact decide_eq_false (by unfold cmp3; omega)
    exact step_run (r2b b (K a b) i x q (i - 1) x (q + q)) (ps_cons hd (ps_cons (P2_W _ _) (ps_cons w1 (ps_cons w2 (ps_cons w2 (ps_cons (P2_W _ _) (ps_cons hcc (ps_cons (by rw [hw]) (ps_cons rfl (ps_cons rfl (ps_cons rfl (ps_cons rfl (ps_cons rfl (ps_cons (by rw [eq1]) (ps_cons rfl (ps_cons rfl (ps_cons rfl (ps_cons rfl (ps_cons (fun _ _ => rfl) ps_nil))))))))))))))))))) rfl fun S1 hk =>
      .inl ⟨rfl, (i - 1, x, q + q), ⟨by show -1 ≤ i - 1; omega, by show i - 1 < _; omega, by show x = _; rw [e3, g1], by show q + q = _; rw [e3, g2]; omega⟩, by show (i - 1 + 1).toNat < (i + 1).toNat; omega, hk⟩
noncomputable def loop1 : CodeC P :=
  loopC mo Z1 (by rfl) 2 68 b1 [900, 5, 3, 2, 1, 0] (s1 a b) (I1 a b) (fun n => 300 - n) (.exit 0) (s1 a b (K a b)) (by simp) (fun _ => rfl) rfl (fun _ => by kernel_rfl) (by kernel_rfl) [900] (fun _ => rfl) rfl
    (l1_step ha hb) 1 ⟨Nat.le_refl _, .inl rfl⟩
noncomputable def loop2 : CodeC P :=
  loopC mo Z1 (by rfl) 2 68 b2 [901, 7, 900, 5, 3, 2, 1, 0] (fun g : Int × Int × Int => s2 b (K a b) g.1 g.2.1 g.2.2) (I2 a b (K a b)) (fun g => (g.1 + 1).toNat) (.exit 2) (f2 b (K a b) (a % b) (a / b)) (by simp) (fun _ => rfl) rfl (fun _ => by kernel_rfl) (by kernel_rfl) [901] (fun _ => rfl) rfl
    (l2_step ha hb) ((K a b : Int) - 1, a, 0) (by
      have hk := k_facts ha hb
      have e : ((K a b : Int) - 1 + 1).toNat = K a b := by omega
      refine ⟨by show -1 ≤ (K a b : Int) - 1; omega, by show (K a b : Int) - 1 < _; omega, ?_, ?_⟩
      · show a = _
        rw [e, Int.emod_eq_of_lt ha.1 hk.2]
      · show 0 = _
        rw [e, Int.ediv_eq_zero_of_lt ha.1 hk.2])
end
noncomputable def Z2 (a b : Int) (ha : 0 ≤ a ∧ a < HH) (hb : 0 < b ∧ b < HH) : Env P := ⟨⟨[], []⟩, [loop1 ha hb, loop2 ha hb], 10, []⟩
theorem plain_run (a b : Int) (ha : 0 ≤ a ∧ a < HH) (hb : 0 < b ∧ b < HH) : runF P (Z2 a b ha hb) 1 87 [W a, W b] (.b true :: (.n 0 :: (.n 1 :: []))) =
  some (.tuple #[W (a / b), W (a % b)], [Code.loop b1 = innerOf P 87 0, (.row 5 : SV) = .row 5, (.ptr 0 0 : SV) = .ptr 0 0, (.ptr 2 0 : SV) = .ptr 2 0, (.ptr 3 0 : SV) = .ptr 3 0, (W a : Value) = W a, (W 0 : Value) = W 0, (W 0 : Value) = W 0, 1 = 1, ∀ j, j < 1 → (Value.agg ((([.int .u64 (w0 b), .int .u64 (w1 b), .int .u64 (w2 b), .int .u64 (w3 b)] : List Value).drop (0 + j * 4)).take 4).toArray) = W (b * 2 ^ j), Code.loop b2 = innerOf P 87 1, (.int .i64 (IntKind.i64.wrap (↑(K a b) - 1)) : Value) = .int .i64 ((K a b : Int) - 1), (.ptr 7 0 : SV) = .ptr 7 0, (.row 900 : SV) = .row 900, (.ptr 0 0 : SV) = .ptr 0 0, (.ptr 2 0 : SV) = .ptr 2 0, (.ptr 3 0 : SV) = .ptr 3 0, (W 0 : Value) = W 0, (W a : Value) = W a, (W 0 : Value) = W 0, (W 0 : Value) = W 0, (K a b) = (K a b), ∀ j, j < K a b → W (b * 2 ^ j) = W (b * 2 ^ j)]) := by kernel_rfl
theorem row1 (b : Int) : ∀ j, j < 1 → (Value.agg ((([.int .u64 (w0 b), .int .u64 (w1 b), .int .u64 (w2 b), .int .u64 (w3 b)] : List Value).drop (0 + j * 4)).take 4).toArray) = W (b * 2 ^ j) := by
  intro j hj
  obtain rfl : j = 0 := by omega
  rw [Int.pow_zero, Int.mul_one]
  rfl
theorem plain_gives (args : List Value) (h : plainP args) : Gives P 87 args.toArray (plainV args) := by
  unfold plainP at h
  split at h
  · rename_i x y
    obtain ⟨hx, hy, h1, h2⟩ := h
    obtain ⟨ex, rx⟩ := isW_in hx
    obtain ⟨ey, ry⟩ := isW_in hy
    have ha : 0 ≤ tI x ∧ tI x < HH := ⟨h1, rx.2⟩
    have hb : 0 < tI y ∧ tI y < HH := ⟨h2, ry.2⟩
    have hk := (i1_facts ha hb (k_facts ha hb).1).1
    have hw : (.int .i64 (IntKind.i64.wrap ((K (tI x) (tI y) : Int) - 1)) : Value) = .int .i64 ((K (tI x) (tI y) : Int) - 1) := by rw [wrap_i64_in (by omega) (by omega)]
    have := gives_of_run (u := .tuple #[W (tI x / tI y), W (tI x % tI y)]) mo (plain_run (tI x) (tI y) ha hb) (ps_cons (by kernel_rfl) (ps_cons rfl (ps_cons rfl (ps_cons rfl (ps_cons rfl (ps_cons rfl (ps_cons rfl (ps_cons rfl (ps_cons rfl (ps_cons (row1 (tI y)) (ps_cons (by kernel_rfl) (ps_cons hw (ps_cons rfl (ps_cons rfl (ps_cons rfl (ps_cons rfl (ps_cons rfl (ps_cons rfl (ps_cons rfl (ps_cons rfl (ps_cons rfl (ps_cons rfl (ps_cons (fun _ _ => rfl) ps_nil))))))))))))))))))))))) rfl
    rw [← ex, ← ey] at this
    exact this
  · exact h.elim
noncomputable def plain : Ctr P := ⟨87, plainP, plainV, plain_gives⟩
end Go.R3
/-
  Contracts of gyreref03, second part: above, floor, Floor, Rest, Ceil, Near, Ints. Printed by ref3b.py.
-/
namespace Go.R3
open Go Go.RowKit Go.Sx Go.Nm Go.Wd Go.Qt Go.Proofs
noncomputable def Y1 : Env P := ⟨plain :: Z1C, [], 10, []⟩
def abP : List Value → Prop
  | [x, y] => IsW x ∧ IsW y ∧ Sm (tI x) ∧ Sm (tI y) ∧ 0 < tI y
  | _ => False
theorem ge_t {x : Int} (h : 0 ≤ x) : (decide (cmp3 x 0 ≥ 0)) = true := decide_eq_true (by unfold cmp3; omega)
theorem ge_f {x : Int} (h : x < 0) : (decide (cmp3 x 0 ≥ 0)) = false := decide_eq_false (by unfold cmp3; omega)
theorem gt_t {x : Int} (h : 0 < x) : (decide (cmp3 x 0 > 0)) = true := decide_eq_true (by unfold cmp3; omega)
theorem gt_f {x : Int} (h : x < 0) : (decide (cmp3 x 0 > 0)) = false := decide_eq_false (by unfold cmp3; omega)
theorem ab0_run (a b : Int) : runF P Y1 1 79 [W a, W b] (.b true :: []) =
  some (.tuple #[W (tI (W a) / tI (W b)), W (tI (W a) % tI (W b))], [P1 [W a], (decide (cmp3 (tI (W a)) 0 ≥ 0)) = true, plainP [W a, W b]]) := by kernel_rfl
theorem ab0_leaf (a b : Int) (ha : Sm a) (hb : Sm b) (h1 : 0 < b) (h2 : 0 ≤ a) : Gives P 79 #[W a, W b] (.tuple #[W (fq a b), W (fr a b)]) := by
  unfold Sm at ha hb
  have hH : HH = 57896044618658097711785492504343953926634992332820282019728792003956564819968 := rfl
  obtain ⟨d0, d1, d2, d3, d4⟩ := div_bound (a := a) (b := b) h2 h1
  have e0 : tI (W a) = a := tI_in (by unfold InR; omega)
  have e1 : tI (W b) = b := tI_in (by unfold InR; omega)
  have R := ab0_run a b
  rw [e0, e1] at R
  refine gives_of_run mo R (ps_cons (P1_W _) (ps_cons (ge_t (by omega)) (ps_cons (plain_at (by unfold InR; omega) (by unfold InR; omega) (by omega) (by omega)) ps_nil))) ?_
  unfold fq fr
  rw [if_pos h1, if_pos h1]
theorem ab1_run (a b : Int) : runF P Y1 1 79 [W a, W b] (.b false :: []) =
  some (.tuple #[W (tI (W (-tI (W (tI (W (tI (W (-tI (W a))) - tI (W 1))) / tI (W b))))) - tI (W 1)), W (tI (W (tI (W b) - tI (W 1))) - tI (W (tI (W (tI (W (-tI (W a))) - tI (W 1))) % tI (W b))))], [P1 [W a], (decide (cmp3 (tI (W a)) 0 ≥ 0)) = false, P1 [W a], noP [], P2 [W (-tI (W a)), W 1], plainP [W (tI (W (-tI (W a))) - tI (W 1)), W b], P1 [W (tI (W (tI (W (-tI (W a))) - tI (W 1))) / tI (W b))], noP [], P2 [W (-tI (W (tI (W (tI (W (-tI (W a))) - tI (W 1))) / tI (W b)))), W 1], noP [], P2 [W b, W 1], P2 [W (tI (W b) - tI (W 1)), W (tI (W (tI (W (-tI (W a))) - tI (W 1))) % tI (W b))]]) := by kernel_rfl
theorem ab1_leaf (a b : Int) (ha : Sm a) (hb : Sm b) (h1 : 0 < b) (h2 : a < 0) : Gives P 79 #[W a, W b] (.tuple #[W (fq a b), W (fr a b)]) := by
  unfold Sm at ha hb
  have hH : HH = 57896044618658097711785492504343953926634992332820282019728792003956564819968 := rfl
  have ed : -(a + 1) = -a - 1 := by omega
  obtain ⟨d0, d1, d2, d3, d4⟩ := div_bound (a := -a - 1) (b := b) (by omega) h1
  obtain ⟨g1, g2⟩ := neg_div h1 h2
  rw [ed] at g1 g2
  have e0 : tI (W a) = a := tI_in (by unfold InR; omega)
  have e1 : tI (W (-a)) = (-a) := tI_in (by unfold InR; omega)
  have e2 : tI (W 1) = 1 := tI_in (by unfold InR; omega)
  have e3 : tI (W ((-a) - 1)) = (-a) - 1 := tI_in (by unfold InR; omega)
  have e4 : tI (W b) = b := tI_in (by unfold InR; omega)
  have e5 : tI (W (((-a) - 1) / b)) = ((-a) - 1) / b := tI_in (by unfold InR; omega)
  have e6 : tI (W (-(((-a) - 1) / b))) = (-(((-a) - 1) / b)) := tI_in (by unfold InR; omega)
  have e7 : tI (W (b - 1)) = b - 1 := tI_in (by unfold InR; omega)
  have e8 : tI (W (((-a) - 1) % b)) = ((-a) - 1) % b := tI_in (by unfold InR; omega)
  have R := ab1_run a b
  rw [e0, e1, e2, e3, e4, e5, e6, e7, e8] at R
  refine gives_of_run mo R (ps_cons (P1_W _) (ps_cons (ge_f (by omega)) (ps_cons (P1_W _) (ps_cons trivial (ps_cons (P2_W _ _) (ps_cons (plain_at (by unfold InR; omega) (by unfold InR; omega) (by omega) (by omega)) (ps_cons (P1_W _) (ps_cons trivial (ps_cons (P2_W _ _) (ps_cons trivial (ps_cons (P2_W _ _) (ps_cons (P2_W _ _) ps_nil)))))))))))) ?_
  unfold fq fr
  rw [if_pos h1, if_pos h1, g1, g2]
theorem above_gives (args : List Value) (h : abP args) : Gives P 79 args.toArray (floorV args) := by
  unfold abP at h
  split at h
  · rename_i x y
    obtain ⟨hx, hy, h1, h2, h3⟩ := h
    obtain ⟨ex, rx⟩ := isW_in hx
    obtain ⟨ey, ry⟩ := isW_in hy
    have key : Gives P 79 #[W (tI x), W (tI y)] (.tuple #[W (fq (tI x) (tI y)), W (fr (tI x) (tI y))]) := by
      by_cases ha : 0 ≤ tI x
      · exact ab0_leaf _ _ h1 h2 h3 ha
      · exact ab1_leaf _ _ h1 h2 h3 (by omega)
    rw [← ex, ← ey] at key
    exact key
  · exact h.elim
noncomputable def above : Ctr P := ⟨79, abP, floorV, above_gives⟩
noncomputable def Y2 : Env P := ⟨above :: Z1C, [], 10, []⟩
theorem ab_at {a b : Int} (ha : Sm a) (hb : Sm b) (h : 0 < b) : abP [W a, W b] := ⟨⟨_, rfl⟩, ⟨_, rfl⟩, by rw [tI_in (inR_of ha)]; exact ha, by rw [tI_in (inR_of hb)]; exact hb, by rw [tI_in (inR_of hb)]; exact h⟩
theorem flz_run (a b : Int) : runF P Y2 1 58 [W a, W b] (.b true :: []) =
  some (.tuple #[W 0, W 0, .int .i64 30], [(weq b 0) = true]) := by kernel_rfl
theorem flz_leaf (a b : Int) (_i1 : InR a) (_i2 : InR b) (h : b = 0) : Gives P 58 #[W a, W b] (.tuple #[W (qv fq a b), W (qv fr a b), .int .i64 (qe a b)]) := by
  have R := flz_run a b
  refine gives_of_run mo R (ps_cons (weq_self h) ps_nil) ?_
  have e : qe a b = 30 := by unfold qe; rw [if_pos h]
  have e2 : qe a b ≠ 0 := by omega
  rw [qv_e fq e2, qv_e fr e2, e]
theorem fla_run (a b : Int) : runF P Y2 1 58 [W a, W b] (.b false :: (.b true :: [])) =
  some (.tuple #[W 0, W 0, .int .i64 20], [(weq b 0) = false, noP [], (weq a (-57896044618658097711785492504343953926634992332820282019728792003956564819968)) = true]) := by kernel_rfl
theorem fla_leaf (a b : Int) (_i1 : InR a) (i2 : InR b) (h : b ≠ 0) (hl : a = -57896044618658097711785492504343953926634992332820282019728792003956564819968) : Gives P 58 #[W a, W b] (.tuple #[W (qv fq a b), W (qv fr a b), .int .i64 (qe a b)]) := by
  have R := fla_run a b
  refine gives_of_run mo R (ps_cons (weq0_f i2 h) (ps_cons trivial (ps_cons (weq_self hl) ps_nil))) ?_
  have e : qe a b = 20 := qe_l h (.inl hl)
  have e2 : qe a b ≠ 0 := by omega
  rw [qv_e fq e2, qv_e fr e2, e]
theorem flb_run (a b : Int) : runF P Y2 1 58 [W a, W b] (.b false :: (.b false :: (.b true :: []))) =
  some (.tuple #[W 0, W 0, .int .i64 20], [(weq b 0) = false, noP [], (weq a (-57896044618658097711785492504343953926634992332820282019728792003956564819968)) = false, noP [], (weq b (-57896044618658097711785492504343953926634992332820282019728792003956564819968)) = true]) := by kernel_rfl
theorem flb_leaf (a b : Int) (i1 : InR a) (i2 : InR b) (h : b ≠ 0) (h1 : a ≠ -57896044618658097711785492504343953926634992332820282019728792003956564819968) (hl : b = -57896044618658097711785492504343953926634992332820282019728792003956564819968) : Gives P 58 #[W a, W b] (.tuple #[W (qv fq a b), W (qv fr a b), .int .i64 (qe a b)]) := by
  have R := flb_run a b
  refine gives_of_run mo R (ps_cons (weq0_f i2 h) (ps_cons trivial (ps_cons (nwn i1 (by unfold InR; decide) h1) (ps_cons trivial (ps_cons (weq_self hl) ps_nil))))) ?_
  have e : qe a b = 20 := qe_l h (.inr hl)
  have e2 : qe a b ≠ 0 := by omega
  rw [qv_e fq e2, qv_e fr e2, e]
theorem flp_run (a b : Int) : runF P Y2 1 58 [W a, W b] (.b false :: (.b false :: (.b false :: (.b true :: [])))) =
  some (.tuple #[W (fq (tI (W a)) (tI (W b))), W (fr (tI (W a)) (tI (W b))), .int .i64 0], [(weq b 0) = false, noP [], (weq a (-57896044618658097711785492504343953926634992332820282019728792003956564819968)) = false, noP [], (weq b (-57896044618658097711785492504343953926634992332820282019728792003956564819968)) = false, P1 [W b], (decide (cmp3 (tI (W b)) 0 > 0)) = true, abP [W a, W b]]) := by kernel_rfl
theorem flp_leaf (a b : Int) (i1 : InR a) (i2 : InR b) (ha : Sm a) (hb : Sm b) (h : b ≠ 0) (h3 : 0 < b) : Gives P 58 #[W a, W b] (.tuple #[W (qv fq a b), W (qv fr a b), .int .i64 (qe a b)]) := by
  have h1 : a ≠ -57896044618658097711785492504343953926634992332820282019728792003956564819968 := by unfold Sm at ha; simp only [HH] at ha; omega
  have h2 : b ≠ -57896044618658097711785492504343953926634992332820282019728792003956564819968 := by unfold Sm at hb; simp only [HH] at hb; omega
  have e0 : tI (W b) = b := tI_in i2
  have e1 : tI (W a) = a := tI_in i1
  have R := flp_run a b
  rw [e0, e1] at R
  refine gives_of_run mo R (ps_cons (weq0_f i2 h) (ps_cons trivial (ps_cons (nwn i1 (by unfold InR; decide) h1) (ps_cons trivial (ps_cons (nwn i2 (by unfold InR; decide) h2) (ps_cons (P1_W _) (ps_cons (gt_t h3) (ps_cons (ab_at ha hb h3) ps_nil)))))))) ?_
  rw [qv_ok fq ha hb h, qv_ok fr ha hb h, qe_ok ha hb h]
theorem fln_run (a b : Int) : runF P Y2 1 58 [W a, W b] (.b false :: (.b false :: (.b false :: (.b false :: [])))) =
  some (.tuple #[W (fq (tI (W (-tI (W a)))) (tI (W (-tI (W b))))), W (-tI (W (fr (tI (W (-tI (W a)))) (tI (W (-tI (W b))))))), .int .i64 0], [(weq b 0) = false, noP [], (weq a (-57896044618658097711785492504343953926634992332820282019728792003956564819968)) = false, noP [], (weq b (-57896044618658097711785492504343953926634992332820282019728792003956564819968)) = false, P1 [W b], (decide (cmp3 (tI (W b)) 0 > 0)) = false, P1 [W a], P1 [W b], abP [W (-tI (W a)), W (-tI (W b))], P1 [W (fr (tI (W (-tI (W a)))) (tI (W (-tI (W b)))))]]) := by kernel_rfl
theorem fln_leaf (a b : Int) (i1 : InR a) (i2 : InR b) (ha : Sm a) (hb : Sm b) (h : b ≠ 0) (h3 : b < 0) : Gives P 58 #[W a, W b] (.tuple #[W (qv fq a b), W (qv fr a b), .int .i64 (qe a b)]) := by
  have h1 : a ≠ -57896044618658097711785492504343953926634992332820282019728792003956564819968 := by unfold Sm at ha; simp only [HH] at ha; omega
  have h2 : b ≠ -57896044618658097711785492504343953926634992332820282019728792003956564819968 := by unfold Sm at hb; simp only [HH] at hb; omega
  have e0 : tI (W b) = b := tI_in i2
  have e1 : tI (W a) = a := tI_in i1
  have e2 : tI (W (-a)) = (-a) := tI_in (inR_of (sm_neg ha))
  have e3 : tI (W (-b)) = (-b) := tI_in (inR_of (sm_neg hb))
  have e4 : tI (W (fr ((-a)) ((-b)))) = fr ((-a)) ((-b)) := tI_in (fl_facts (sm_neg ha) (sm_neg hb) (neg_nz h)).2.2.2.2
  have R := fln_run a b
  rw [e0, e1, e2, e3, e4] at R
  refine gives_of_run mo R (ps_cons (weq0_f i2 h) (ps_cons trivial (ps_cons (nwn i1 (by unfold InR; decide) h1) (ps_cons trivial (ps_cons (nwn i2 (by unfold InR; decide) h2) (ps_cons (P1_W _) (ps_cons (gt_f h3) (ps_cons (P1_W _) (ps_cons (P1_W _) (ps_cons (ab_at (sm_neg ha) (sm_neg hb) (by omega)) (ps_cons (P1_W _) ps_nil))))))))))) ?_
  rw [qv_ok fq ha hb h, qv_ok fr ha hb h, qe_ok ha hb h, (fq_tt h).1, (fq_tt (a := a) h).2, Int.neg_neg]
def flV : List Value → Value
  | [x, y] => .tuple #[W (qv fq (tI x) (tI y)), W (qv fr (tI x) (tI y)), .int .i64 (qe (tI x) (tI y))]
  | _ => undef
theorem floor_gives (args : List Value) (h : P2 args) : Gives P 58 args.toArray (flV args) := by
  unfold P2 at h
  split at h
  · rename_i x y
    obtain ⟨hx, hy⟩ := h
    obtain ⟨ex, rx⟩ := isW_in hx
    obtain ⟨ey, ry⟩ := isW_in hy
    have key : Gives P 58 #[W (tI x), W (tI y)] (flV [x, y]) := by
      by_cases h : tI y = 0
      · exact flz_leaf _ _ rx ry h
      by_cases h1 : tI x = -HH
      · exact fla_leaf _ _ rx ry h h1
      by_cases h2 : tI y = -HH
      · exact flb_leaf _ _ rx ry h h1 h2
      have ha : Sm (tI x) := by unfold InR Sm at *; omega
      have hb : Sm (tI y) := by unfold InR Sm at *; omega
      by_cases h3 : 0 < tI y
      · exact flp_leaf _ _ rx ry ha hb h h3
      · exact fln_leaf _ _ rx ry ha hb h (by omega)
    rw [← ex, ← ey] at key
    exact key
  · exact h.elim
noncomputable def floor : Ctr P := ⟨58, P2, flV, floor_gives⟩
noncomputable def Y3 : Env P := ⟨floor :: Z1C, [], 10, []⟩
theorem NearE_run (a b : Int) : runF P Y3 1 35 [W a, W b] (.b true :: []) =
  some (.tuple #[W (qv fq (tI (W a)) (tI (W b))), .int .i64 (qe (tI (W a)) (tI (W b)))], [P2 [W a, W b], (qe (tI (W a)) (tI (W b)) != 0) = true]) := by kernel_rfl
theorem NearE_leaf (a b : Int) (i1 : InR a) (i2 : InR b) (he : (qe a b != 0) = true) : Gives P 35 #[W a, W b] (.tuple #[W (qv nq a b), .int .i64 (qe a b)]) := by
  have e0 : tI (W a) = a := tI_in i1
  have e1 : tI (W b) = b := tI_in i2
  have R := NearE_run a b
  rw [e0, e1] at R
  refine gives_of_run mo R (ps_cons (P2_W _ _) (ps_cons he ps_nil)) ?_
  rw [qv_e fq (by simpa using he), qv_e nq (by simpa using he)]
theorem nc_pos {a b : Int} (h : 0 < b) : nc a b = cmp3 (fr a b) (b - fr a b) := ncp h
theorem nc_neg {a b : Int} (h : b < 0) : nc a b = cmp3 (-fr a b) (-(b - fr a b)) := by
  unfold nc
  have e1 : cmp3 (-fr a b) (-(b - fr a b)) = -cmp3 (fr a b) (b - fr a b) := by unfold cmp3; omega
  have e2 : cmp3 b 0 = -1 := by unfold cmp3; omega
  rw [e1, e2]
  omega
theorem Near10_run (a b : Int) : runF P Y3 1 35 [W a, W b] (.b false :: (.b false :: (.b true :: []))) =
  some (.tuple #[W (tI (W (qv fq (tI (W a)) (tI (W b)))) + tI (W 1)), .int .i64 0], [P2 [W a, W b], (qe (tI (W a)) (tI (W b)) != 0) = false, P2 [W b, W (qv fr (tI (W a)) (tI (W b)))], P1 [W b], (decide (cmp3 (tI (W b)) 0 < 0)) = false, P2 [W (qv fr (tI (W a)) (tI (W b))), W (tI (W b) - tI (W (qv fr (tI (W a)) (tI (W b)))))], (decide (cmp3 (tI (W (qv fr (tI (W a)) (tI (W b))))) (tI (W (tI (W b) - tI (W (qv fr (tI (W a)) (tI (W b))))))) > 0)) = true, noP [], P2 [W (qv fq (tI (W a)) (tI (W b))), W 1]]) := by kernel_rfl
theorem Near10_leaf (a b : Int) (ha : Sm a) (hb : Sm b) (h : b ≠ 0) (h3 : ¬ b < 0) (q0 : nc a b > 0) : Gives P 35 #[W a, W b] (.tuple #[W (qv nq a b), .int .i64 (qe a b)]) := by
  have i1 : InR a := inR_of ha
  have i2 : InR b := inR_of hb
  obtain ⟨f0, f1, f2, f3, f4⟩ := fl_facts ha hb h
  have he := qe_ok ha hb h
  have en := nc_pos (a := a) (show 0 < b by omega)
  have q1 := decide_eq_true (p := nc a b > 0) (by omega)
  rw [en] at q1
  have e0 : tI (W a) = a := tI_in i1
  have e1 : tI (W b) = b := tI_in i2
  have e2 : tI (W (qv fr a b)) = fr a b := tI_qv fr ha hb h f4
  have e3 : tI (W (b - (fr a b))) = b - (fr a b) := tI_in (left_in ha hb h)
  have e4 : tI (W (qv fq a b)) = fq a b := tI_qv fq ha hb h f3
  have e5 : tI (W 1) = 1 := tI_in inR_1
  have R := Near10_run a b
  rw [e0, e1, e2, e3, e4, e5] at R
  simp only [qv_ok fq ha hb h, qv_ok fr ha hb h] at R
  refine gives_of_run mo R (ps_cons (P2_W _ _) (ps_cons (by rw [he]; rfl) (ps_cons (P2_W _ _) (ps_cons (P1_W _) (ps_cons (lt_f h3) (ps_cons (P2_W _ _) (ps_cons q1 (ps_cons trivial (ps_cons (P2_W _ _) ps_nil))))))))) ?_
  rw [qv_ok nq ha hb h, he]
  unfold nq
  rw [if_pos (.inl q0)]
theorem Near20_run (a b : Int) : runF P Y3 1 35 [W a, W b] (.b false :: (.b false :: (.b false :: (.b true :: (.b true :: []))))) =
  some (.tuple #[W (tI (W (qv fq (tI (W a)) (tI (W b)))) + tI (W 1)), .int .i64 0], [P2 [W a, W b], (qe (tI (W a)) (tI (W b)) != 0) = false, P2 [W b, W (qv fr (tI (W a)) (tI (W b)))], P1 [W b], (decide (cmp3 (tI (W b)) 0 < 0)) = false, P2 [W (qv fr (tI (W a)) (tI (W b))), W (tI (W b) - tI (W (qv fr (tI (W a)) (tI (W b)))))], (decide (cmp3 (tI (W (qv fr (tI (W a)) (tI (W b))))) (tI (W (tI (W b) - tI (W (qv fr (tI (W a)) (tI (W b))))))) > 0)) = false, (cmp3 (tI (W (qv fr (tI (W a)) (tI (W b))))) (tI (W (tI (W b) - tI (W (qv fr (tI (W a)) (tI (W b))))))) == 0) = true, P1 [W (qv fq (tI (W a)) (tI (W b)))], (decide (cmp3 (tI (W (qv fq (tI (W a)) (tI (W b))))) 0 ≥ 0)) = true, noP [], P2 [W (qv fq (tI (W a)) (tI (W b))), W 1]]) := by kernel_rfl
theorem Near20_leaf (a b : Int) (ha : Sm a) (hb : Sm b) (h : b ≠ 0) (h3 : ¬ b < 0) (q0 : nc a b = 0) (q : 0 ≤ fq a b) : Gives P 35 #[W a, W b] (.tuple #[W (qv nq a b), .int .i64 (qe a b)]) := by
  have i1 : InR a := inR_of ha
  have i2 : InR b := inR_of hb
  obtain ⟨f0, f1, f2, f3, f4⟩ := fl_facts ha hb h
  have he := qe_ok ha hb h
  have en := nc_pos (a := a) (show 0 < b by omega)
  have q1 := decide_eq_false (p := nc a b > 0) (by omega)
  rw [en] at q1
  have q2 : (nc a b == 0) = true := by simp; omega
  rw [en] at q2
  have q3 := ge_t q
  have e0 : tI (W a) = a := tI_in i1
  have e1 : tI (W b) = b := tI_in i2
  have e2 : tI (W (qv fr a b)) = fr a b := tI_qv fr ha hb h f4
  have e3 : tI (W (b - (fr a b))) = b - (fr a b) := tI_in (left_in ha hb h)
  have e4 : tI (W (qv fq a b)) = fq a b := tI_qv fq ha hb h f3
  have e5 : tI (W 1) = 1 := tI_in inR_1
  have R := Near20_run a b
  rw [e0, e1, e2, e3, e4, e5] at R
  simp only [qv_ok fq ha hb h, qv_ok fr ha hb h] at R
  refine gives_of_run mo R (ps_cons (P2_W _ _) (ps_cons (by rw [he]; rfl) (ps_cons (P2_W _ _) (ps_cons (P1_W _) (ps_cons (lt_f h3) (ps_cons (P2_W _ _) (ps_cons q1 (ps_cons q2 (ps_cons (P1_W _) (ps_cons q3 (ps_cons trivial (ps_cons (P2_W _ _) ps_nil)))))))))))) ?_
  rw [qv_ok nq ha hb h, he]
  unfold nq
  rw [if_pos (.inr ⟨q0, q⟩)]
theorem Near30_run (a b : Int) : runF P Y3 1 35 [W a, W b] (.b false :: (.b false :: (.b false :: (.b true :: (.b false :: []))))) =
  some (.tuple #[W (qv fq (tI (W a)) (tI (W b))), .int .i64 0], [P2 [W a, W b], (qe (tI (W a)) (tI (W b)) != 0) = false, P2 [W b, W (qv fr (tI (W a)) (tI (W b)))], P1 [W b], (decide (cmp3 (tI (W b)) 0 < 0)) = false, P2 [W (qv fr (tI (W a)) (tI (W b))), W (tI (W b) - tI (W (qv fr (tI (W a)) (tI (W b)))))], (decide (cmp3 (tI (W (qv fr (tI (W a)) (tI (W b))))) (tI (W (tI (W b) - tI (W (qv fr (tI (W a)) (tI (W b))))))) > 0)) = false, (cmp3 (tI (W (qv fr (tI (W a)) (tI (W b))))) (tI (W (tI (W b) - tI (W (qv fr (tI (W a)) (tI (W b))))))) == 0) = true, P1 [W (qv fq (tI (W a)) (tI (W b)))], (decide (cmp3 (tI (W (qv fq (tI (W a)) (tI (W b))))) 0 ≥ 0)) = false]) := by kernel_rfl
theorem Near30_leaf (a b : Int) (ha : Sm a) (hb : Sm b) (h : b ≠ 0) (h3 : ¬ b < 0) (q0 : nc a b = 0) (q : fq a b < 0) : Gives P 35 #[W a, W b] (.tuple #[W (qv nq a b), .int .i64 (qe a b)]) := by
  have i1 : InR a := inR_of ha
  have i2 : InR b := inR_of hb
  obtain ⟨f0, f1, f2, f3, f4⟩ := fl_facts ha hb h
  have he := qe_ok ha hb h
  have en := nc_pos (a := a) (show 0 < b by omega)
  have q1 := decide_eq_false (p := nc a b > 0) (by omega)
  rw [en] at q1
  have q2 : (nc a b == 0) = true := by simp; omega
  rw [en] at q2
  have q3 := ge_f q
  have e0 : tI (W a) = a := tI_in i1
  have e1 : tI (W b) = b := tI_in i2
  have e2 : tI (W (qv fr a b)) = fr a b := tI_qv fr ha hb h f4
  have e3 : tI (W (b - (fr a b))) = b - (fr a b) := tI_in (left_in ha hb h)
  have e4 : tI (W (qv fq a b)) = fq a b := tI_qv fq ha hb h f3
  have R := Near30_run a b
  rw [e0, e1, e2, e3, e4] at R
  simp only [qv_ok fq ha hb h, qv_ok fr ha hb h] at R
  refine gives_of_run mo R (ps_cons (P2_W _ _) (ps_cons (by rw [he]; rfl) (ps_cons (P2_W _ _) (ps_cons (P1_W _) (ps_cons (lt_f h3) (ps_cons (P2_W _ _) (ps_cons q1 (ps_cons q2 (ps_cons (P1_W _) (ps_cons q3 ps_nil)))))))))) ?_
  rw [qv_ok nq ha hb h, he]
  unfold nq
  rw [if_neg (by omega)]
theorem Near40_run (a b : Int) : runF P Y3 1 35 [W a, W b] (.b false :: (.b false :: (.b false :: (.b false :: [])))) =
  some (.tuple #[W (qv fq (tI (W a)) (tI (W b))), .int .i64 0], [P2 [W a, W b], (qe (tI (W a)) (tI (W b)) != 0) = false, P2 [W b, W (qv fr (tI (W a)) (tI (W b)))], P1 [W b], (decide (cmp3 (tI (W b)) 0 < 0)) = false, P2 [W (qv fr (tI (W a)) (tI (W b))), W (tI (W b) - tI (W (qv fr (tI (W a)) (tI (W b)))))], (decide (cmp3 (tI (W (qv fr (tI (W a)) (tI (W b))))) (tI (W (tI (W b) - tI (W (qv fr (tI (W a)) (tI (W b))))))) > 0)) = false, (cmp3 (tI (W (qv fr (tI (W a)) (tI (W b))))) (tI (W (tI (W b) - tI (W (qv fr (tI (W a)) (tI (W b))))))) == 0) = false]) := by kernel_rfl
theorem Near40_leaf (a b : Int) (ha : Sm a) (hb : Sm b) (h : b ≠ 0) (h3 : ¬ b < 0) (q0 : nc a b < 0) : Gives P 35 #[W a, W b] (.tuple #[W (qv nq a b), .int .i64 (qe a b)]) := by
  have i1 : InR a := inR_of ha
  have i2 : InR b := inR_of hb
  obtain ⟨f0, f1, f2, f3, f4⟩ := fl_facts ha hb h
  have he := qe_ok ha hb h
  have en := nc_pos (a := a) (show 0 < b by omega)
  have q1 := decide_eq_false (p := nc a b > 0) (by omega)
  rw [en] at q1
  have q2 : (nc a b == 0) = false := by simp; omega
  rw [en] at q2
  have e0 : tI (W a) = a := tI_in i1
  have e1 : tI (W b) = b := tI_in i2
  have e2 : tI (W (qv fr a b)) = fr a b := tI_qv fr ha hb h f4
  have e3 : tI (W (b - (fr a b))) = b - (fr a b) := tI_in (left_in ha hb h)
  have R := Near40_run a b
  rw [e0, e1, e2, e3] at R
  simp only [qv_ok fq ha hb h, qv_ok fr ha hb h] at R
  refine gives_of_run mo R (ps_cons (P2_W _ _) (ps_cons (by rw [he]; rfl) (ps_cons (P2_W _ _) (ps_cons (P1_W _) (ps_cons (lt_f h3) (ps_cons (P2_W _ _) (ps_cons q1 (ps_cons q2 ps_nil)))))))) ?_
  rw [qv_ok nq ha hb h, he]
  unfold nq
  rw [if_neg (by omega)]
theorem Near11_run (a b : Int) : runF P Y3 1 35 [W a, W b] (.b false :: (.b true :: (.b true :: []))) =
  some (.tuple #[W (tI (W (qv fq (tI (W a)) (tI (W b)))) + tI (W 1)), .int .i64 0], [P2 [W a, W b], (qe (tI (W a)) (tI (W b)) != 0) = false, P2 [W b, W (qv fr (tI (W a)) (tI (W b)))], P1 [W b], (decide (cmp3 (tI (W b)) 0 < 0)) = true, P1 [W (qv fr (tI (W a)) (tI (W b)))], P1 [W (tI (W b) - tI (W (qv fr (tI (W a)) (tI (W b)))))], P2 [W (-tI (W (qv fr (tI (W a)) (tI (W b))))), W (-tI (W (tI (W b) - tI (W (qv fr (tI (W a)) (tI (W b)))))))], (decide (cmp3 (tI (W (-tI (W (qv fr (tI (W a)) (tI (W b))))))) (tI (W (-tI (W (tI (W b) - tI (W (qv fr (tI (W a)) (tI (W b))))))))) > 0)) = true, noP [], P2 [W (qv fq (tI (W a)) (tI (W b))), W 1]]) := by kernel_rfl
theorem Near11_leaf (a b : Int) (ha : Sm a) (hb : Sm b) (h : b ≠ 0) (h3 : b < 0) (q0 : nc a b > 0) : Gives P 35 #[W a, W b] (.tuple #[W (qv nq a b), .int .i64 (qe a b)]) := by
  have i1 : InR a := inR_of ha
  have i2 : InR b := inR_of hb
  obtain ⟨f0, f1, f2, f3, f4⟩ := fl_facts ha hb h
  have he := qe_ok ha hb h
  have en := nc_neg (a := a) h3
  have q1 := decide_eq_true (p := nc a b > 0) (by omega)
  rw [en] at q1
  have e0 : tI (W a) = a := tI_in i1
  have e1 : tI (W b) = b := tI_in i2
  have e2 : tI (W (qv fr a b)) = fr a b := tI_qv fr ha hb h f4
  have e3 : tI (W (b - (fr a b))) = b - (fr a b) := tI_in (left_in ha hb h)
  have e4 : tI (W (-(fr a b))) = (-(fr a b)) := tI_in (by have := fl_facts ha hb h; unfold InR Sm at *; omega)
  have e5 : tI (W (-(b - (fr a b)))) = (-(b - (fr a b))) := tI_in (by have := fl_facts ha hb h; have := left_in ha hb h; unfold InR Sm at *; omega)
  have e6 : tI (W (qv fq a b)) = fq a b := tI_qv fq ha hb h f3
  have e7 : tI (W 1) = 1 := tI_in inR_1
  have R := Near11_run a b
  rw [e0, e1, e2, e3, e4, e5, e6, e7] at R
  simp only [qv_ok fq ha hb h, qv_ok fr ha hb h] at R
  refine gives_of_run mo R (ps_cons (P2_W _ _) (ps_cons (by rw [he]; rfl) (ps_cons (P2_W _ _) (ps_cons (P1_W _) (ps_cons (lt_t h3) (ps_cons (P1_W _) (ps_cons (P1_W _) (ps_cons (P2_W _ _) (ps_cons q1 (ps_cons trivial (ps_cons (P2_W _ _) ps_nil))))))))))) ?_
  rw [qv_ok nq ha hb h, he]
  unfold nq
  rw [if_pos (.inl q0)]
theorem Near21_run (a b : Int) : runF P Y3 1 35 [W a, W b] (.b false :: (.b true :: (.b false :: (.b true :: (.b true :: []))))) =
  some (.tuple #[W (tI (W (qv fq (tI (W a)) (tI (W b)))) + tI (W 1)), .int .i64 0], [P2 [W a, W b], (qe (tI (W a)) (tI (W b)) != 0) = false, P2 [W b, W (qv fr (tI (W a)) (tI (W b)))], P1 [W b], (decide (cmp3 (tI (W b)) 0 < 0)) = true, P1 [W (qv fr (tI (W a)) (tI (W b)))], P1 [W (tI (W b) - tI (W (qv fr (tI (W a)) (tI (W b)))))], P2 [W (-tI (W (qv fr (tI (W a)) (tI (W b))))), W (-tI (W (tI (W b) - tI (W (qv fr (tI (W a)) (tI (W b)))))))], (decide (cmp3 (tI (W (-tI (W (qv fr (tI (W a)) (tI (W b))))))) (tI (W (-tI (W (tI (W b) - tI (W (qv fr (tI (W a)) (tI (W b))))))))) > 0)) = false, (cmp3 (tI (W (-tI (W (qv fr (tI (W a)) (tI (W b))))))) (tI (W (-tI (W (tI (W b) - tI (W (qv fr (tI (W a)) (tI (W b))))))))) == 0) = true, P1 [W (qv fq (tI (W a)) (tI (W b)))], (decide (cmp3 (tI (W (qv fq (tI (W a)) (tI (W b))))) 0 ≥ 0)) = true, noP [], P2 [W (qv fq (tI (W a)) (tI (W b))), W 1]]) := by kernel_rfl
theorem Near21_leaf (a b : Int) (ha : Sm a) (hb : Sm b) (h : b ≠ 0) (h3 : b < 0) (q0 : nc a b = 0) (q : 0 ≤ fq a b) : Gives P 35 #[W a, W b] (.tuple #[W (qv nq a b), .int .i64 (qe a b)]) := by
  have i1 : InR a := inR_of ha
  have i2 : InR b := inR_of hb
  obtain ⟨f0, f1, f2, f3, f4⟩ := fl_facts ha hb h
  have he := qe_ok ha hb h
  have en := nc_neg (a := a) h3
  have q1 := decide_eq_false (p := nc a b > 0) (by omega)
  rw [en] at q1
  have q2 : (nc a b == 0) = true := by simp; omega
  rw [en] at q2
  have q3 := ge_t q
  have e0 : tI (W a) = a := tI_in i1
  have e1 : tI (W b) = b := tI_in i2
  have e2 : tI (W (qv fr a b)) = fr a b := tI_qv fr ha hb h f4
  have e3 : tI (W (b - (fr a b))) = b - (fr a b) := tI_in (left_in ha hb h)
  have e4 : tI (W (-(fr a b))) = (-(fr a b)) := tI_in (by have := fl_facts ha hb h; unfold InR Sm at *; omega)
  have e5 : tI (W (-(b - (fr a b)))) = (-(b - (fr a b))) := tI_in (by have := fl_facts ha hb h; have := left_in ha hb h; unfold InR Sm at *; omega)
  have e6 : tI (W (qv fq a b)) = fq a b := tI_qv fq ha hb h f3
  have e7 : tI (W 1) = 1 := tI_in inR_1
  have R := Near21_run a b
  rw [e0, e1, e2, e3, e4, e5, e6, e7] at R
  simp only [qv_ok fq ha hb h, qv_ok fr ha hb h] at R
  refine gives_of_run mo R (ps_cons (P2_W _ _) (ps_cons (by rw [he]; rfl) (ps_cons (P2_W _ _) (ps_cons (P1_W _) (ps_cons (lt_t h3) (ps_cons (P1_W _) (ps_cons (P1_W _) (ps_cons (P2_W _ _) (ps_cons q1 (ps_cons q2 (ps_cons (P1_W _) (ps_cons q3 (ps_cons trivial (ps_cons (P2_W _ _) ps_nil)))))))))))))) ?_
  rw [qv_ok nq ha hb h, he]
  unfold nq
  rw [if_pos (.inr ⟨q0, q⟩)]
theorem Near31_run (a b : Int) : runF P Y3 1 35 [W a, W b] (.b false :: (.b true :: (.b false :: (.b true :: (.b false :: []))))) =
  some (.tuple #[W (qv fq (tI (W a)) (tI (W b))), .int .i64 0], [P2 [W a, W b], (qe (tI (W a)) (tI (W b)) != 0) = false, P2 [W b, W (qv fr (tI (W a)) (tI (W b)))], P1 [W b], (decide (cmp3 (tI (W b)) 0 < 0)) = true, P1 [W (qv fr (tI (W a)) (tI (W b)))], P1 [W (tI (W b) - tI (W (qv fr (tI (W a)) (tI (W b)))))], P2 [W (-tI (W (qv fr (tI (W a)) (tI (W b))))), W (-tI (W (tI (W b) - tI (W (qv fr (tI (W a)) (tI (W b)))))))], (decide (cmp3 (tI (W (-tI (W (qv fr (tI (W a)) (tI (W b))))))) (tI (W (-tI (W (tI (W b) - tI (W (qv fr (tI (W a)) (tI (W b))))))))) > 0)) = false, (cmp3 (tI (W (-tI (W (qv fr (tI (W a)) (tI (W b))))))) (tI (W (-tI (W (tI (W b) - tI (W (qv fr (tI (W a)) (tI (W b))))))))) == 0) = true, P1 [W (qv fq (tI (W a)) (tI (W b)))], (decide (cmp3 (tI (W (qv fq (tI (W a)) (tI (W b))))) 0 ≥ 0)) = false]) := by kernel_rfl
theorem Near31_leaf (a b : Int) (ha : Sm a) (hb : Sm b) (h : b ≠ 0) (h3 : b < 0) (q0 : nc a b = 0) (q : fq a b < 0) : Gives P 35 #[W a, W b] (.tuple #[W (qv nq a b), .int .i64 (qe a b)]) := by
  have i1 : InR a := inR_of ha
  have i2 : InR b := inR_of hb
  obtain ⟨f0, f1, f2, f3, f4⟩ := fl_facts ha hb h
  have he := qe_ok ha hb h
  have en := nc_neg (a := a) h3
  have q1 := decide_eq_false (p := nc a b > 0) (by omega)
  rw [en] at q1
  have q2 : (nc a b == 0) = true := by simp; omega
  rw [en] at q2
  have q3 := ge_f q
  have e0 : tI (W a) = a := tI_in i1
  have e1 : tI (W b) = b := tI_in i2
  have e2 : tI (W (qv fr a b)) = fr a b := tI_qv fr ha hb h f4
  have e3 : tI (W (b - (fr a b))) = b - (fr a b) := tI_in (left_in ha hb h)
  have e4 : tI (W (-(fr a b))) = (-(fr a b)) := tI_in (by have := fl_facts ha hb h; unfold InR Sm at *; omega)
  have e5 : tI (W (-(b - (fr a b)))) = (-(b - (fr a b))) := tI_in (by have := fl_facts ha hb h; have := left_in ha hb h; unfold InR Sm at *; omega)
  have e6 : tI (W (qv fq a b)) = fq a b := tI_qv fq ha hb h f3
  have R := Near31_run a b
  rw [e0, e1, e2, e3, e4, e5, e6] at R
  simp only [qv_ok fq ha hb h, qv_ok fr ha hb h] at R
  refine gives_of_run mo R (ps_cons (P2_W _ _) (ps_cons (by rw [he]; rfl) (ps_cons (P2_W _ _) (ps_cons (P1_W _) (ps_cons (lt_t h3) (ps_cons (P1_W _) (ps_cons (P1_W _) (ps_cons (P2_W _ _) (ps_cons q1 (ps_cons q2 (ps_cons (P1_W _) (ps_cons q3 ps_nil)))))))))))) ?_
  rw [qv_ok nq ha hb h, he]
  unfold nq
  rw [if_neg (by omega)]
theorem Near41_run (a b : Int) : runF P Y3 1 35 [W a, W b] (.b false :: (.b true :: (.b false :: (.b false :: [])))) =
  some (.tuple #[W (qv fq (tI (W a)) (tI (W b))), .int .i64 0], [P2 [W a, W b], (qe (tI (W a)) (tI (W b)) != 0) = false, P2 [W b, W (qv fr (tI (W a)) (tI (W b)))], P1 [W b], (decide (cmp3 (tI (W b)) 0 < 0)) = true, P1 [W (qv fr (tI (W a)) (tI (W b)))], P1 [W (tI (W b) - tI (W (qv fr (tI (W a)) (tI (W b)))))], P2 [W (-tI (W (qv fr (tI (W a)) (tI (W b))))), W (-tI (W (tI (W b) - tI (W (qv fr (tI (W a)) (tI (W b)))))))], (decide (cmp3 (tI (W (-tI (W (qv fr (tI (W a)) (tI (W b))))))) (tI (W (-tI (W (tI (W b) - tI (W (qv fr (tI (W a)) (tI (W b))))))))) > 0)) = false, (cmp3 (tI (W (-tI (W (qv fr (tI (W a)) (tI (W b))))))) (tI (W (-tI (W (tI (W b) - tI (W (qv fr (tI (W a)) (tI (W b))))))))) == 0) = false]) := by kernel_rfl
theorem Near41_leaf (a b : Int) (ha : Sm a) (hb : Sm b) (h : b ≠ 0) (h3 : b < 0) (q0 : nc a b < 0) : Gives P 35 #[W a, W b] (.tuple #[W (qv nq a b), .int .i64 (qe a b)]) := by
  have i1 : InR a := inR_of ha
  have i2 : InR b := inR_of hb
  obtain ⟨f0, f1, f2, f3, f4⟩ := fl_facts ha hb h
  have he := qe_ok ha hb h
  have en := nc_neg (a := a) h3
  have q1 := decide_eq_false (p := nc a b > 0) (by omega)
  rw [en] at q1
  have q2 : (nc a b == 0) = false := by simp; omega
  rw [en] at q2
  have e0 : tI (W a) = a := tI_in i1
  have e1 : tI (W b) = b := tI_in i2
  have e2 : tI (W (qv fr a b)) = fr a b := tI_qv fr ha hb h f4
  have e3 : tI (W (b - (fr a b))) = b - (fr a b) := tI_in (left_in ha hb h)
  have e4 : tI (W (-(fr a b))) = (-(fr a b)) := tI_in (by have := fl_facts ha hb h; unfold InR Sm at *; omega)
  have e5 : tI (W (-(b - (fr a b)))) = (-(b - (fr a b))) := tI_in (by have := fl_facts ha hb h; have := left_in ha hb h; unfold InR Sm at *; omega)
  have R := Near41_run a b
  rw [e0, e1, e2, e3, e4, e5] at R
  simp only [qv_ok fq ha hb h, qv_ok fr ha hb h] at R
  refine gives_of_run mo R (ps_cons (P2_W _ _) (ps_cons (by rw [he]; rfl) (ps_cons (P2_W _ _) (ps_cons (P1_W _) (ps_cons (lt_t h3) (ps_cons (P1_W _) (ps_cons (P1_W _) (ps_cons (P2_W _ _) (ps_cons q1 (ps_cons q2 ps_nil)))))))))) ?_
  rw [qv_ok nq ha hb h, he]
  unfold nq
  rw [if_neg (by omega)]
theorem Near_gives (args : List Value) (h : P2 args) : Gives P 35 args.toArray (quoV nq args) := by
  unfold P2 at h
  split at h
  · rename_i x y
    obtain ⟨hx, hy⟩ := h
    obtain ⟨ex, rx⟩ := isW_in hx
    obtain ⟨ey, ry⟩ := isW_in hy
    have key : Gives P 35 #[W (tI x), W (tI y)] (quoV nq [x, y]) := by
      cases he : (qe (tI x) (tI y) != 0) with
      | true => exact NearE_leaf _ _ rx ry he
      | false =>
        have hq : qe (tI x) (tI y) = 0 := by simpa using he
        have h : tI y ≠ 0 := by intro e; unfold qe at hq; rw [if_pos e] at hq; omega
        have h1 : ¬ (tI x = -HH ∨ tI y = -HH) := by intro e; rw [qe_l h e] at hq; omega
        have ha : Sm (tI x) := by unfold InR Sm at *; omega
        have hb : Sm (tI y) := by unfold InR Sm at *; omega
        by_cases h3 : tI y < 0
        · by_cases q1 : nc (tI x) (tI y) > 0
          · exact Near11_leaf _ _ ha hb h h3 q1
          by_cases q0 : nc (tI x) (tI y) = 0
          · by_cases q : 0 ≤ fq (tI x) (tI y)
            · exact Near21_leaf _ _ ha hb h h3 q0 q
            · exact Near31_leaf _ _ ha hb h h3 q0 (by omega)
          · exact Near41_leaf _ _ ha hb h h3 (by omega)
        · by_cases q1 : nc (tI x) (tI y) > 0
          · exact Near10_leaf _ _ ha hb h h3 q1
          by_cases q0 : nc (tI x) (tI y) = 0
          · by_cases q : 0 ≤ fq (tI x) (tI y)
            · exact Near20_leaf _ _ ha hb h h3 q0 q
            · exact Near30_leaf _ _ ha hb h h3 q0 (by omega)
          · exact Near40_leaf _ _ ha hb h h3 (by omega)
    rw [← ex, ← ey] at key
    exact key
  · exact h.elim
noncomputable def cNear : Ctr P := ⟨35, P2, quoV nq, Near_gives⟩
end Go.R3
