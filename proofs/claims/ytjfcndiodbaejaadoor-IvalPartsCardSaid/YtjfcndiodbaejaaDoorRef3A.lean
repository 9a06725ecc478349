/-
  Contracts of gyreref03, first part: plain. Printed by ref3.py.
-/
import Derived.Test.YtjfcndiodbaejaaDoorQuotK
set_option maxRecDepth 100000
namespace Go.R3
open Go Go.RowKit Go.Sx Go.Nm Go.Wd Go.Qt Go.Proofs

noncomputable def Z0 : Env P := ⟨Rd.refC, [], 10, []⟩
def oneV : List Value → Value := fun _ => W 1
def leastV : List Value → Value := fun _ => W (-57896044618658097711785492504343953926634992332820282019728792003956564819968)
def two (f : Int → Int → Int) : List Value → Value
  | [x, y] => W (f (tI x) (tI y))
  | _ => undef
def negW : List Value → Value
  | [x] => W (-tI x)
  | _ => undef
theorem add_run (a b : Int) : runF P Z0 1 81 [W a, W b] [] = some (W (tI (W a) + tI (W b)), [P2 [W a, W b]]) := by kernel_rfl
theorem add_gives (args : List Value) (h : P2 args) : Gives P 81 args.toArray (two (· + ·) args) := by
  unfold P2 at h
  split at h
  · obtain ⟨⟨a, rfl⟩, ⟨b, rfl⟩⟩ := h
    exact gives_of_run mo (add_run _ _) (ps_cons (P2_W _ _) ps_nil) rfl
  · exact h.elim
noncomputable def add : Ctr P := ⟨81, P2, two (· + ·), add_gives⟩
theorem sub_run (a b : Int) : runF P Z0 1 131 [W a, W b] [] = some (W (tI (W a) - tI (W b)), [P2 [W a, W b]]) := by kernel_rfl
theorem sub_gives (args : List Value) (h : P2 args) : Gives P 131 args.toArray (two (· - ·) args) := by
  unfold P2 at h
  split at h
  · obtain ⟨⟨a, rfl⟩, ⟨b, rfl⟩⟩ := h
    exact gives_of_run mo (sub_run _ _) (ps_cons (P2_W _ _) ps_nil) rfl
  · exact h.elim
noncomputable def sub : Ctr P := ⟨131, P2, two (· - ·), sub_gives⟩
theorem neg_run (a : Int) : runF P Z0 1 111 [W a] [] = some (W (-tI (W a)), [P1 [W a]]) := by kernel_rfl
theorem neg_gives (args : List Value) (h : P1 args) : Gives P 111 args.toArray (negW args) := by
  unfold P1 at h
  split at h
  · obtain ⟨a, rfl⟩ := h
    exact gives_of_run mo (neg_run _) (ps_cons (P1_W _) ps_nil) rfl
  · exact h.elim
noncomputable def neg : Ctr P := ⟨111, P1, negW, neg_gives⟩
theorem one_run  : runF P Z0 1 82 [] [] = some (W 1, [ofP [.int .i64 1]]) := by kernel_rfl
theorem one_gives (args : List Value) (h : noP args) : Gives P 82 args.toArray (oneV args) := by
  unfold noP at h
  split at h
  · skip
    exact gives_of_run mo (one_run ) (ps_cons ⟨by decide, by decide⟩ ps_nil) rfl
  · exact h.elim
noncomputable def one : Ctr P := ⟨82, noP, oneV, one_gives⟩
theorem rleast_run  : runF P Z0 1 108 [] [] = some (W (-57896044618658097711785492504343953926634992332820282019728792003956564819968), []) := by kernel_rfl
theorem rleast_gives (args : List Value) (h : noP args) : Gives P 108 args.toArray (leastV args) := by
  unfold noP at h
  split at h
  · skip
    exact gives_of_run mo (rleast_run ) ps_nil rfl
  · exact h.elim
noncomputable def rleast : Ctr P := ⟨108, noP, leastV, rleast_gives⟩
noncomputable def Z1C : List (Ctr P) := [add, sub, neg, one, rleast] ++ Rd.refC
noncomputable def Z1 : Env P := ⟨Z1C, [], 10, []⟩

/-! ### plain -/
noncomputable def b1 : Code := bodyOf (innerOf P 130 0)
noncomputable def b2 : Code := bodyOf (innerOf P 130 1)
def s1 (a b : Int) (n : Nat) : St := ⟨[(6, .row 900), (2, .ptr 0 0), (4, .ptr 2 0), (5, .ptr 3 0)], [(0, (.whole (W a), 41)), (2, (.whole (W 0), 41)), (3, (.whole (W 0), 41))], [], [900, 5, 3, 2, 1, 0], [(900, some ⟨41, 4, n, fun i => W (b * 2 ^ i), true⟩)]⟩
def s2 (b : Int) (n : Nat) (i x q : Int) : St := ⟨[(10, .v (.int .i64 i)), (9, .ptr 7 0), (6, .row 901), (2, .ptr 0 0), (4, .ptr 2 0), (5, .ptr 3 0)], [(7, (.whole (W q), 41)), (0, (.whole (W x), 41)), (2, (.whole (W 0), 41)), (3, (.whole (W 0), 41))], [], [901, 7, 900, 5, 3, 2, 1, 0], [(901, some ⟨41, 4, n, fun i => W (b * 2 ^ i), true⟩)]⟩
def f2 (b : Int) (n : Nat) (x q : Int) : St := ⟨[(9, .ptr 7 0), (6, .row 901), (2, .ptr 0 0), (4, .ptr 2 0), (5, .ptr 3 0)], [(7, (.whole (W q), 41)), (0, (.whole (W x), 41)), (2, (.whole (W 0), 41)), (3, (.whole (W 0), 41))], [], [901, 7, 900, 5, 3, 2, 1, 0], [(901, some ⟨41, 4, n, fun i => W (b * 2 ^ i), true⟩)]⟩
theorem r1o (a b : Int) (n : Nat) (k : Nat) : stepF P Z1 2 68 b1 (s1 a b n) (.n (n - 1) :: (.n (n - 1) :: (.b true :: []))) 1000 (fun _ => some (s1 a b n)) k =
  some (.exit 0, k,
    [IntKind.i64.wrap (↑n - 1) = ↑(n - 1),
     n - 1 < n,
     n - 1 < n,
     IntKind.i64.wrap (↑n - 1) = ↑(n - 1),
     n - 1 < n,
     n - 1 < n,
     P2 [W (b * 2 ^ (n - 1)), W (b * 2 ^ (n - 1))],
     (!inRB (tI (W (b * 2 ^ (n - 1))) + tI (W (b * 2 ^ (n - 1))))) = true,
     (.row 900 : SV) = .row 900,
     (.ptr 0 0 : SV) = .ptr 0 0,
     (.ptr 2 0 : SV) = .ptr 2 0,
     (.ptr 3 0 : SV) = .ptr 3 0,
     (W a : Value) = W a,
     (W 0 : Value) = W 0,
     (W 0 : Value) = W 0,
     n = n,
     ∀ j, j < n → W (b * 2 ^ j) = W (b * 2 ^ j)]) := by kernel_rfl
theorem r1e (a b : Int) (n : Nat) (k : Nat) : stepF P Z1 2 68 b1 (s1 a b n) (.n (n - 1) :: (.n (n - 1) :: (.b false :: (.b true :: [])))) 1000 (fun _ => some (s1 a b n)) k =
  some (.exit 0, k,
    [IntKind.i64.wrap (↑n - 1) = ↑(n - 1),
     n - 1 < n,
     n - 1 < n,
     IntKind.i64.wrap (↑n - 1) = ↑(n - 1),
     n - 1 < n,
     n - 1 < n,
     P2 [W (b * 2 ^ (n - 1)), W (b * 2 ^ (n - 1))],
     (!inRB (tI (W (b * 2 ^ (n - 1))) + tI (W (b * 2 ^ (n - 1))))) = false,
     P2 [W (tI (W (b * 2 ^ (n - 1))) + tI (W (b * 2 ^ (n - 1)))), W a],
     (decide (cmp3 (tI (W (tI (W (b * 2 ^ (n - 1))) + tI (W (b * 2 ^ (n - 1)))))) (tI (W a)) > 0)) = true,
     (.row 900 : SV) = .row 900,
     (.ptr 0 0 : SV) = .ptr 0 0,
     (.ptr 2 0 : SV) = .ptr 2 0,
     (.ptr 3 0 : SV) = .ptr 3 0,
     (W a : Value) = W a,
     (W 0 : Value) = W 0,
     (W 0 : Value) = W 0,
     n = n,
     ∀ j, j < n → W (b * 2 ^ j) = W (b * 2 ^ j)]) := by kernel_rfl
theorem r1a (a b : Int) (n : Nat) (k : Nat) : stepF P Z1 2 68 b1 (s1 a b n) (.n (n - 1) :: (.n (n - 1) :: (.b false :: (.b false :: [])))) 1000 (fun _ => some (s1 a b (n + 1))) k =
  some (.normal, k,
    [IntKind.i64.wrap (↑n - 1) = ↑(n - 1),
     n - 1 < n,
     n - 1 < n,
     IntKind.i64.wrap (↑n - 1) = ↑(n - 1),
     n - 1 < n,
     n - 1 < n,
     P2 [W (b * 2 ^ (n - 1)), W (b * 2 ^ (n - 1))],
     (!inRB (tI (W (b * 2 ^ (n - 1))) + tI (W (b * 2 ^ (n - 1))))) = false,
     P2 [W (tI (W (b * 2 ^ (n - 1))) + tI (W (b * 2 ^ (n - 1)))), W a],
     (decide (cmp3 (tI (W (tI (W (b * 2 ^ (n - 1))) + tI (W (b * 2 ^ (n - 1)))))) (tI (W a)) > 0)) = false,
     n < 1000000,
     (.row 1029 : SV) = .row 1029,
     (.ptr 0 0 : SV) = .ptr 0 0,
     (.ptr 2 0 : SV) = .ptr 2 0,
     (.ptr 3 0 : SV) = .ptr 3 0,
     (W a : Value) = W a,
     (W 0 : Value) = W 0,
     (W 0 : Value) = W 0,
     n + 1 = n + 1,
     ∀ j, j < n + 1 → (bif Nat.beq j n then W (tI (W (b * 2 ^ (n - 1))) + tI (W (b * 2 ^ (n - 1)))) else W (b * 2 ^ j)) = W (b * 2 ^ j)]) := by kernel_rfl
theorem r2x (b : Int) (n : Nat) (i x q _j y r : Int) (k : Nat) : stepF P Z1 2 68 b2 (s2 b n i x q) (.b false :: []) 1000 (fun _ => some (f2 b n y r)) k =
  some (.exit 2, k,
    [(decide (i ≥ 0)) = false,
     (.ptr 7 0 : SV) = .ptr 7 0,
     (.row 901 : SV) = .row 901,
     (.ptr 0 0 : SV) = .ptr 0 0,
     (.ptr 2 0 : SV) = .ptr 2 0,
     (.ptr 3 0 : SV) = .ptr 3 0,
     (W q : Value) = W r,
     (W x : Value) = W y,
     (W 0 : Value) = W 0,
     (W 0 : Value) = W 0,
     n = n,
     ∀ j, j < n → W (b * 2 ^ j) = W (b * 2 ^ j)]) := by kernel_rfl
theorem r2a (b : Int) (n : Nat) (i x q j y r : Int) (k : Nat) : stepF P Z1 2 68 b2 (s2 b n i x q) (.b true :: (.n i.toNat :: (.b true :: (.n i.toNat :: [])))) 1000 (fun _ => some (s2 b n j y r)) k =
  some (.normal, k,
    [(decide (i ≥ 0)) = true,
     P2 [W q, W q],
     i = ↑i.toNat,
     i.toNat < n,
     i.toNat < n,
     P2 [W (b * 2 ^ i.toNat), W x],
     (decide (cmp3 (tI (W (b * 2 ^ i.toNat))) (tI (W x)) ≤ 0)) = true,
     i = ↑i.toNat,
     i.toNat < n,
     i.toNat < n,
     P2 [W x, W (b * 2 ^ i.toNat)],
     noP [],
     P2 [W (tI (W q) + tI (W q)), W 1],
     (.int .i64 (IntKind.i64.wrap (i - 1)) : Value) = .int .i64 j,
     (.ptr 7 0 : SV) = .ptr 7 0,
     (.row 901 : SV) = .row 901,
     (.ptr 0 0 : SV) = .ptr 0 0,
     (.ptr 2 0 : SV) = .ptr 2 0,
     (.ptr 3 0 : SV) = .ptr 3 0,
     (W (tI (W (tI (W q) + tI (W q))) + tI (W 1)) : Value) = W r,
     (W (tI (W x) - tI (W (b * 2 ^ i.toNat))) : Value) = W y,
     (W 0 : Value) = W 0,
     (W 0 : Value) = W 0,
     n = n,
     ∀ j, j < n → W (b * 2 ^ j) = W (b * 2 ^ j)]) := by kernel_rfl
theorem r2b (b : Int) (n : Nat) (i x q j y r : Int) (k : Nat) : stepF P Z1 2 68 b2 (s2 b n i x q) (.b true :: (.n i.toNat :: (.b false :: []))) 1000 (fun _ => some (s2 b n j y r)) k =
  some (.normal, k,
    [(decide (i ≥ 0)) = true,
     P2 [W q, W q],
     i = ↑i.toNat,
     i.toNat < n,
     i.toNat < n,
     P2 [W (b * 2 ^ i.toNat), W x],
     (decide (cmp3 (tI (W (b * 2 ^ i.toNat))) (tI (W x)) ≤ 0)) = false,
     (.int .i64 (IntKind.i64.wrap (i - 1)) : Value) = .int .i64 j,
     (.ptr 7 0 : SV) = .ptr 7 0,
     (.row 901 : SV) = .row 901,
     (.ptr 0 0 : SV) = .ptr 0 0,
     (.ptr 2 0 : SV) = .ptr 2 0,
     (.ptr 3 0 : SV) = .ptr 3 0,
     (W (tI (W q) + tI (W q)) : Value) = W r,
     (W x : Value) = W y,
     (W 0 : Value) = W 0,
     (W 0 : Value) = W 0,
     n = n,
     ∀ j, j < n → W (b * 2 ^ j) = W (b * 2 ^ j)]) := by kernel_rfl

/-- How many there are: b, doubled as often as it is not above a. -/
def K (a b : Int) : Nat := max 1 (bl (a / b)).toNat
section
variable {a b : Int} (ha : 0 ≤ a ∧ a < HH) (hb : 0 < b ∧ b < HH)
def I1 (a b : Int) (n : Nat) : Prop := 1 ≤ n ∧ (n = 1 ∨ b * 2 ^ (n - 1) ≤ a)
include ha hb
theorem i1_facts {n : Nat} (h : I1 a b n) : n ≤ 256 ∧ InR (b * 2 ^ (n - 1)) ∧ b * 2 ^ (n - 1) + b * 2 ^ (n - 1) = b * 2 ^ n ∧ 0 < b * 2 ^ (n - 1) := by
  obtain ⟨h1, h2⟩ := h
  have hp := pow2_pos (n - 1)
  have e : b * 2 ^ (n - 1) + b * 2 ^ (n - 1) = b * 2 ^ n := by
    obtain ⟨m, rfl⟩ : ∃ m, n = m + 1 := ⟨n - 1, by omega⟩
    rw [Nat.add_sub_cancel, Int.pow_succ, ← Int.mul_assoc]; omega
  have h3 : 0 < b * 2 ^ (n - 1) := Int.mul_pos hb.1 hp
  refine ⟨?_, ?_, e, h3⟩
  · rcases h2 with h2 | h2
    · omega
    · have h4 : (2 : Int) ^ (n - 1) ≤ b * 2 ^ (n - 1) := by
        have := Int.mul_le_mul_of_nonneg_right (show (1 : Int) ≤ b by omega) (Int.le_of_lt hp)
        omega
      by_cases h5 : 255 ≤ n - 1
      · have h6 : (2 : Int) ^ 255 ≤ 2 ^ (n - 1) := pow2_le h5
        have h7 : (2 : Int) ^ 255 = HH := by decide
        omega
      · omega
  · rcases h2 with h2 | h2
    · subst h2
      simp only [Nat.sub_self, Int.pow_zero, Int.mul_one]
      unfold InR; omega
    · unfold InR; omega
theorem i1_end {n : Nat} (h : I1 a b n) (h2 : a < b * 2 ^ n) : n = K a b := by
  obtain ⟨h1, h3⟩ := h
  unfold K
  have hp := pow2_pos n
  have h4 : a / b < 2 ^ n := Int.ediv_lt_of_lt_mul hb.1 (by rw [Int.mul_comm]; exact h2)
  have h0 : 0 ≤ a / b := Int.ediv_nonneg ha.1 (by omega)
  rcases h3 with h3 | h3
  · subst h3
    have := bl_le 1 h0 h4
    omega
  · have h5 : 2 ^ (n - 1) ≤ a / b := (Int.le_ediv_iff_mul_le hb.1).2 (by rw [Int.mul_comm]; exact h3)
    have h6 := bl_le n h0 h4
    have h7 := bl_lt h0
    have h8 : (n - 1 : Nat) < (bl (a / b)).toNat := by
      rcases Nat.lt_or_ge (n - 1) (bl (a / b)).toNat with h | h
      · exact h
      · have := pow2_le h; omega
    omega
theorem k_facts : I1 a b (K a b) ∧ a < b * 2 ^ K a b := by
  have h0 : 0 ≤ a / b := Int.ediv_nonneg ha.1 (by omega)
  have e := Int.mul_ediv_add_emod a b
  have r1 := Int.emod_lt_of_pos a hb.1
  have h7 := bl_lt h0
  have hlt : a / b < 2 ^ K a b := by
    have : (2 : Int) ^ (bl (a / b)).toNat ≤ 2 ^ K a b := pow2_le (by unfold K; omega)
    omega
  have hle : a / b + 1 ≤ 2 ^ K a b := by omega
  have := Int.mul_le_mul_of_nonneg_left hle (Int.le_of_lt hb.1)
  rw [Int.mul_add, Int.mul_one] at this
  refine ⟨⟨by unfold K; omega, ?_⟩, by omega⟩
  by_cases h1 : K a b = 1
  · exact .inl h1
  · right
    have h2 : K a b = (bl (a / b)).toNat := by unfold K at *; omega
    have hpos : 0 < a / b := by
      rcases Int.lt_or_eq_of_le h0 with h | h
      · exact h
      · exfalso
        rw [← h] at h2
        have : bl 0 = 0 := rfl
        rw [this] at h2
        unfold K at h1 h2
        omega
    have h3 := (bl_ge hpos).2
    have h4 : (2 : Int) ^ (K a b - 1) ≤ a / b := by
      rw [h2, show (bl (a / b)).toNat - 1 = (bl (a / b) - 1).toNat by omega]
      exact h3
    have h5 := Int.mul_le_mul_of_nonneg_left h4 (Int.le_of_lt hb.1)
    have r0 := Int.emod_nonneg a (b := b) (by omega)
    omega
theorem l1_step (n : Nat) (h : I1 a b n) :
    StepTo P Z1 2 68 b1 (s1 a b n) fun o S1 => (o = .normal ∧ ∃ g', I1 a b g' ∧ 300 - g' < 300 - n ∧ Keeps S1 (s1 a b g')) ∨ (o = .exit 0 ∧ Keeps S1 (s1 a b (K a b))) := by
  obtain ⟨f1, f2, f3, f4⟩ := i1_facts ha hb h
  have hn := h.1
  have w1 : IntKind.i64.wrap ((n : Int) - 1) = ((n - 1 : Nat) : Int) := by rw [wrap_i64_in (by omega) (by omega)]; omega
  have w2 : n - 1 < n := by omega
  have e1 : tI (W (b * 2 ^ (n - 1))) = b * 2 ^ (n - 1) := tI_in f2
  have eI : tI (W (b * 2 ^ (n - 1))) + tI (W (b * 2 ^ (n - 1))) = b * 2 ^ n := by rw [e1, f3]
  have ea : tI (W a) = a := tI_in (by unfold InR; omega)
  have exit : a < b * 2 ^ n → ∀ S1, Keeps S1 (s1 a b n) → (Out.exit 0 = .normal ∧ ∃ g', I1 a b g' ∧ 300 - g' < 300 - n ∧ Keeps S1 (s1 a b g')) ∨ (Out.exit 0 = .exit 0 ∧ Keeps S1 (s1 a b (K a b))) :=
    fun hlt S1 hk => .inr ⟨rfl, by rw [← i1_end ha hb h hlt]; exact hk⟩
  cases ho : (!inRB (tI (W (b * 2 ^ (n - 1))) + tI (W (b * 2 ^ (n - 1))))) with
  | true =>
    have : ¬ InR (b * 2 ^ n) := by
      rw [eI] at ho
      intro hi
      rw [inRB_of hi] at ho
      cases ho
    have hlt : a < b * 2 ^ n := by unfold InR at this; omega
    exact step_run (r1o a b n) (ps_cons w1 (ps_cons w2 (ps_cons w2 (ps_cons w1 (ps_cons w2 (ps_cons w2 (ps_cons (P2_W _ _) (ps_cons ho (ps_cons rfl (ps_cons rfl (ps_cons rfl (ps_cons rfl (ps_cons rfl (ps_cons rfl (ps_cons rfl (ps_cons rfl (ps_cons (fun _ _ => rfl) ps_nil))))))))))))))))) rfl (exit hlt)
  | false =>
    have hi : InR (b * 2 ^ n) := by
      rw [eI] at ho
      exact inRB_iff.1 (by simpa using ho)
    have e2 : tI (W (tI (W (b * 2 ^ (n - 1))) + tI (W (b * 2 ^ (n - 1))))) = b * 2 ^ n := by rw [eI, tI_in hi]
    by_cases hc : a < b * 2 ^ n
    · have hcc : (decide (cmp3 (tI (W (tI (W (b * 2 ^ (n - 1))) + tI (W (b * 2 ^ (n - 1)))))) (tI (W a)) > 0)) = true := by
        rw [e2, ea]
        exact decide_eq_true (by unfold cmp3; omega)
      exact step_run (r1e a b n) (ps_cons w1 (ps_cons w2 (ps_cons w2 (ps_cons w1 (ps_cons w2 (ps_cons w2 (ps_cons (P2_W _ _) (ps_cons ho (ps_cons (P2_W _ _) (ps_cons hcc (ps_cons rfl (ps_cons rfl (ps_cons rfl (ps_cons rfl (ps_cons rfl (ps_cons rfl (ps_cons rfl (ps_cons rfl (ps_cons (fun _ _ => rfl) ps_nil))))))))))))))))))) rfl (exit hc)
    · have hcc : (decide (cmp3 (tI (W (tI (W (b * 2 ^ (n - 1))) + tI (W (b * 2 ^ (n - 1)))))) (tI (W a)) > 0)) = false := by
        rw [e2, ea]
        exact decide_eq_false (by unfold cmp3; omega)
      have hrow : ∀ j, j < n + 1 → (bif Nat.beq j n then W (tI (W (b * 2 ^ (n - 1))) + tI (W (b * 2 ^ (n - 1)))) else W (b * 2 ^ j)) = W (b * 2 ^ j) := by
        intro j _
        cases hj : Nat.beq j n with
        | true => rw [Nat.eq_of_beq_eq_true hj, eI]; rfl
        | false => rfl
      have hin : I1 a b (n + 1) := ⟨by omega, .inr (by rw [Nat.add_sub_cancel]; omega)⟩
      have := (i1_facts ha hb hin).1
      exact step_run (r1a a b n) (ps_cons w1 (ps_cons w2 (ps_cons w2 (ps_cons w1 (ps_cons w2 (ps_cons w2 (ps_cons (P2_W _ _) (ps_cons ho (ps_cons (P2_W _ _) (ps_cons hcc (ps_cons (by omega) (ps_cons rfl (ps_cons rfl (ps_cons rfl (ps_cons rfl (ps_cons rfl (ps_cons rfl (ps_cons rfl (ps_cons rfl (ps_cons hrow ps_nil)))))))))))))))))))) rfl fun S1 hk => .inl ⟨rfl, n + 1, hin, by omega, hk⟩
end

def At2 (a b i x q : Int) : Prop := x = a % (b * 2 ^ (i + 1).toNat) ∧ q = a / (b * 2 ^ (i + 1).toNat)
def I2 (a b : Int) (n : Nat) (g : Int × Int × Int) : Prop := -1 ≤ g.1 ∧ g.1 < n ∧ At2 a b g.1 g.2.1 g.2.2
section
variable {a b : Int} (ha : 0 ≤ a ∧ a < HH) (hb : 0 < b ∧ b < HH)
include ha hb
theorem l2_step (g : Int × Int × Int) (h : I2 a b (K a b) g) :
    StepTo P Z1 2 68 b2 (s2 b (K a b) g.1 g.2.1 g.2.2) fun o S1 => (o = .normal ∧ ∃ g', I2 a b (K a b) g' ∧ (g'.1 + 1).toNat < (g.1 + 1).toNat ∧ Keeps S1 (s2 b (K a b) g'.1 g'.2.1 g'.2.2)) ∨ (o = .exit 2 ∧ Keeps S1 (f2 b (K a b) (a % b) (a / b))) := by
  obtain ⟨i, x, q⟩ := g
  obtain ⟨h1, h2, h3, h4⟩ := h
  have hk := (k_facts ha hb).1
  obtain ⟨k1, k2, _, k4⟩ := i1_facts ha hb hk
  simp only at h1 h2 h3 h4
  by_cases hi : i < 0
  · have e : (i + 1).toNat = 0 := by omega
    rw [e, Int.pow_zero, Int.mul_one] at h3 h4
    subst h3
    subst h4
    have hd : (decide (i ≥ 0)) = false := decide_eq_false (by omega)
    exact step_run (r2x b (K a b) i _ _ 0 (a % b) (a / b)) (ps_cons hd (ps_cons rfl (ps_cons rfl (ps_cons rfl (ps_cons rfl (ps_cons rfl (ps_cons rfl (ps_cons rfl (ps_cons rfl (ps_cons rfl (ps_cons rfl (ps_cons (fun _ _ => rfl) ps_nil)))))))))))) rfl fun S1 hk => .inr ⟨rfl, hk⟩
  have hd : (decide (i ≥ 0)) = true := decide_eq_true (by omega)
  have w1 : i = ((i.toNat : Nat) : Int) := by omega
  have w2 : i.toNat < K a b := by omega
  have e1 : (i + 1).toNat = i.toNat + 1 := by omega
  have e3 : (i - 1 + 1).toNat = i.toNat := by omega
  have em : b * 2 ^ (i.toNat + 1) = 2 * (b * 2 ^ i.toNat) := by rw [Int.pow_succ, ← Int.mul_assoc, Int.mul_comm]
  have hm : 0 < b * 2 ^ i.toNat := Int.mul_pos hb.1 (pow2_pos _)
  have hmle : b * 2 ^ i.toNat ≤ b * 2 ^ (K a b - 1) := Int.mul_le_mul_of_nonneg_left (pow2_le (by omega)) (Int.le_of_lt hb.1)
  have hmR : InR (b * 2 ^ i.toNat) := by unfold InR at *; omega
  rw [e1, em] at h3 h4
  have hq0 : 0 ≤ q := by rw [h4]; exact Int.ediv_nonneg ha.1 (by omega)
  have hx0 : 0 ≤ x := by rw [h3]; exact Int.emod_nonneg a (by omega)
  have hxa : x ≤ a := by rw [h3]; exact emod_le ha.1 (by omega)
  have hqa : a / (b * 2 ^ i.toNat) ≤ a := Int.ediv_le_self _ ha.1
  have hst := div_step (a := a) hm
  rw [← h3, ← h4] at hst
  have ex : tI (W x) = x := tI_in (by unfold InR; omega)
  have em2 : tI (W (b * 2 ^ i.toNat)) = b * 2 ^ i.toNat := tI_in hmR
  have hw : IntKind.i64.wrap (i - 1) = i - 1 := wrap_i64_in (by omega) (by omega)
  by_cases hc : b * 2 ^ i.toNat ≤ x
  · obtain ⟨g1, g2⟩ := hst.1 hc
    have eq1 : tI (W q) = q := tI_in (by unfold InR; omega)
    have eq2 : tI (W (q + q)) = q + q := tI_in (by unfold InR; omega)
    have e11 : tI (W 1) = 1 := tI_in inR_1
    have hcc : (decide (cmp3 (tI (W (b * 2 ^ i.toNat))) (tI (W x)) ≤ 0)) = true := by
      rw [em2, ex]
      exact decide_eq_true (by unfold cmp3; omega)
    exact step_run (r2a b (K a b) i x q (i - 1) (x - b * 2 ^ i.toNat) (q + q + 1)) (ps_cons hd (ps_cons (P2_W _ _) (ps_cons w1 (ps_cons w2 (ps_cons w2 (ps_cons (P2_W _ _) (ps_cons hcc (ps_cons w1 (ps_cons w2 (ps_cons w2 (ps_cons (P2_W _ _) (ps_cons trivial (ps_cons (P2_W _ _) (ps_cons (by rw [hw]) (ps_cons rfl (ps_cons rfl (ps_cons rfl (ps_cons rfl (ps_cons rfl (ps_cons (by rw [eq1, eq2, e11]) (ps_cons (by rw [ex, em2]) (ps_cons rfl (ps_cons rfl (ps_cons rfl (ps_cons (fun _ _ => rfl) ps_nil))))))))))))))))))))))))) rfl fun S1 hk =>
      .inl ⟨rfl, (i - 1, x - b * 2 ^ i.toNat, q + q + 1), ⟨by show -1 ≤ i - 1; omega, by show i - 1 < _; omega, by show x - b * 2 ^ i.toNat = _; rw [e3, g1], by show q + q + 1 = _; rw [e3, g2]; omega⟩, by show (i - 1 + 1).toNat < (i + 1).toNat; omega, hk⟩
  · obtain ⟨g1, g2⟩ := hst.2 hc
    have eq1 : tI (W q) = q := tI_in (by unfold InR; omega)
    have hcc : (decide (cmp3 (tI (W (b * 2 ^ i.toNat))) (tI (W x)) ≤ 0)) = false := by
      rw [em2, ex]
      exact decide_eq_false (by unfold cmp3; omega)
    exact step_run (r2b b (K a b) i x q (i - 1) x (q + q)) (ps_cons hd (ps_cons (P2_W _ _) (ps_cons w1 (ps_cons w2 (ps_cons w2 (ps_cons (P2_W _ _) (ps_cons hcc (ps_cons (by rw [hw]) (ps_cons rfl (ps_cons rfl (ps_cons rfl (ps_cons rfl (ps_cons rfl (ps_cons (by rw [eq1]) (ps_cons rfl (ps_cons rfl (ps_cons rfl (ps_cons rfl (ps_cons (fun _ _ => rfl) ps_nil))))))))))))))))))) rfl fun S1 hk =>
      .inl ⟨rfl, (i - 1, x, q + q), ⟨by show -1 ≤ i - 1; omega, by show i - 1 < _; omega, by show x = _; rw [e3, g1], by show q + q = _; rw [e3, g2]; omega⟩, by show (i - 1 + 1).toNat < (i + 1).toNat; omega, hk⟩
noncomputable def loop1 : CodeC P :=
  loopC mo Z1 (by rfl) 2 68 b1 [900, 5, 3, 2, 1, 0] (s1 a b) (I1 a b) (fun n => 300 - n) (.exit 0) (s1 a b (K a b)) (by simp) (fun _ => rfl) rfl (fun _ => by kernel_rfl) (by kernel_rfl) [900] (fun _ => rfl) rfl
    (l1_step ha hb) 1 ⟨Nat.le_refl _, .inl rfl⟩
noncomputable def loop2 : CodeC P :=
  loopC mo Z1 (by rfl) 2 68 b2 [901, 7, 900, 5, 3, 2, 1, 0] (fun g : Int × Int × Int => s2 b (K a b) g.1 g.2.1 g.2.2) (I2 a b (K a b)) (fun g => (g.1 + 1).toNat) (.exit 2) (f2 b (K a b) (a % b) (a / b)) (by simp) (fun _ => rfl) rfl (fun _ => by kernel_rfl) (by kernel_rfl) [901] (fun _ => rfl) rfl
    (l2_step ha hb) ((K a b : Int) - 1, a, 0) (by
      have hk := k_facts ha hb
      have e : ((K a b : Int) - 1 + 1).toNat = K a b := by omega
      refine ⟨by show -1 ≤ (K a b : Int) - 1; omega, by show (K a b : Int) - 1 < _; omega, ?_, ?_⟩
      · show a = _
        rw [e, Int.emod_eq_of_lt ha.1 hk.2]
      · show 0 = _
        rw [e, Int.ediv_eq_zero_of_lt ha.1 hk.2])
end
noncomputable def Z2 (a b : Int) (ha : 0 ≤ a ∧ a < HH) (hb : 0 < b ∧ b < HH) : Env P := ⟨⟨[], []⟩, [loop1 ha hb, loop2 ha hb], 10, []⟩
theorem plain_run (a b : Int) (ha : 0 ≤ a ∧ a < HH) (hb : 0 < b ∧ b < HH) : runF P (Z2 a b ha hb) 1 130 [W a, W b] (.b true :: (.n 0 :: (.n 1 :: []))) =
  some (.tuple #[W (a / b), W (a % b)],
    [Code.loop b1 = innerOf P 130 0,
     (.row 5 : SV) = .row 5,
     (.ptr 0 0 : SV) = .ptr 0 0,
     (.ptr 2 0 : SV) = .ptr 2 0,
     (.ptr 3 0 : SV) = .ptr 3 0,
     (W a : Value) = W a,
     (W 0 : Value) = W 0,
     (W 0 : Value) = W 0,
     1 = 1,
     ∀ j, j < 1 → (Value.agg ((([.int .u64 (w0 b), .int .u64 (w1 b), .int .u64 (w2 b), .int .u64 (w3 b)] : List Value).drop (0 + j * 4)).take 4).toArray) = W (b * 2 ^ j),
     Code.loop b2 = innerOf P 130 1,
     (.int .i64 (IntKind.i64.wrap (↑(K a b) - 1)) : Value) = .int .i64 ((K a b : Int) - 1),
     (.ptr 7 0 : SV) = .ptr 7 0,
     (.row 900 : SV) = .row 900,
     (.ptr 0 0 : SV) = .ptr 0 0,
     (.ptr 2 0 : SV) = .ptr 2 0,
     (.ptr 3 0 : SV) = .ptr 3 0,
     (W 0 : Value) = W 0,
     (W a : Value) = W a,
     (W 0 : Value) = W 0,
     (W 0 : Value) = W 0,
     (K a b) = (K a b),
     ∀ j, j < K a b → W (b * 2 ^ j) = W (b * 2 ^ j)]) := by kernel_rfl
theorem row1 (b : Int) : ∀ j, j < 1 → (Value.agg ((([.int .u64 (w0 b), .int .u64 (w1 b), .int .u64 (w2 b), .int .u64 (w3 b)] : List Value).drop (0 + j * 4)).take 4).toArray) = W (b * 2 ^ j) := by
  intro j hj
  obtain rfl : j = 0 := by omega
  rw [Int.pow_zero, Int.mul_one]
  rfl
theorem plain_gives (args : List Value) (h : plainP args) : Gives P 130 args.toArray (plainV args) := by
  unfold plainP at h
  split at h
  · rename_i x y
    obtain ⟨hx, hy, h1, h2⟩ := h
    obtain ⟨ex, rx⟩ := isW_in hx
    obtain ⟨ey, ry⟩ := isW_in hy
    have ha : 0 ≤ tI x ∧ tI x < HH := ⟨h1, rx.2⟩
    have hb : 0 < tI y ∧ tI y < HH := ⟨h2, ry.2⟩
    have hk := (i1_facts ha hb (k_facts ha hb).1).1
    have hw : (.int .i64 (IntKind.i64.wrap ((K (tI x) (tI y) : Int) - 1)) : Value) = .int .i64 ((K (tI x) (tI y) : Int) - 1) := by rw [wrap_i64_in (by omega) (by omega)]
    have := gives_of_run (u := .tuple #[W (tI x / tI y), W (tI x % tI y)]) mo (plain_run (tI x) (tI y) ha hb) (ps_cons (by kernel_rfl) (ps_cons rfl (ps_cons rfl (ps_cons rfl (ps_cons rfl (ps_cons rfl (ps_cons rfl (ps_cons rfl (ps_cons rfl (ps_cons (row1 (tI y)) (ps_cons (by kernel_rfl) (ps_cons hw (ps_cons rfl (ps_cons rfl (ps_cons rfl (ps_cons rfl (ps_cons rfl (ps_cons rfl (ps_cons rfl (ps_cons rfl (ps_cons rfl (ps_cons rfl (ps_cons (fun _ _ => rfl) ps_nil))))))))))))))))))))))) rfl
    rw [← ex, ← ey] at this
    exact this
  · exact h.elim
noncomputable def plain : Ctr P := ⟨130, plainP, plainV, plain_gives⟩
end Go.R3
