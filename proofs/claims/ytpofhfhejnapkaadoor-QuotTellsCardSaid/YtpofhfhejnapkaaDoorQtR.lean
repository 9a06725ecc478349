/-
  gyreref03: Left, Right. Printed by tell3.py.
-/
import Derived.Test.YtpofhfhejnapkaaDoorQuotR
import Derived.Test.YtpofhfhejnapkaaDoorRfc
set_option maxRecDepth 100000
namespace Go.R3
open Go Go.RowKit Go.Sx Go.Nm Go.Wd Go.Qt Go.Proofs
theorem neg_t {b : Bool} (h : b = false) : (!b) = true := by rw [h]; rfl
theorem neg_f {b : Bool} (h : b = true) : (!b) = false := by rw [h]; rfl
noncomputable def X0 : Env P := ⟨Rd.refC, [], 10, []⟩
noncomputable def ll_b : Code := bodyOf (innerOf P 13 0)
def ll_st (n : Int) (i : Int) (v : Int) (e : Int) : St := ⟨[(6, .v (.int .i64 i)), (5, .v (.int .i64 e)), (1, .v (.int .i64 n)), (2, .ptr 0 0), (4, .ptr 1 0)], [(0, (.whole (W v), 24)), (1, (.whole (W 0), 24))], [], [1, 0], []⟩
theorem ll_w0 (n : Int) (i : Int) (v : Int) (e : Int) (k_ : Nat) : stepF P X0 1 31 ll_b (ll_st n i v e) (.b true :: (.b false :: [])) 1000 (fun _ => some (ll_st n (IntKind.i64.wrap (i + 1)) (tI (W v) + tI (W v)) e)) k_ =
  some (.normal, k_, [(decide (i < n)) = true, P2 [W v, W v], (!inRB (tI (W v) + tI (W v))) = false, (.int .i64 (IntKind.i64.wrap (i + 1)) : Value) = .int .i64 (IntKind.i64.wrap (i + 1)), (.int .i64 e : Value) = .int .i64 e, (.int .i64 n : Value) = .int .i64 n, (.ptr 0 0 : SV) = .ptr 0 0, (.ptr 1 0 : SV) = .ptr 1 0, (W (tI (W v) + tI (W v)) : Value) = W (tI (W v) + tI (W v)), (W 0 : Value) = W 0]) := by kernel_rfl
theorem ll_w0_ok (n : Int) (i : Int) (v : Int) (e : Int) (q0 : (decide (i < n)) = true) (q1 : (inRB (tI (W v) + tI (W v))) = true)  {good : Out → St → Prop} (hg : ∀ S1, Keeps S1 (ll_st n (IntKind.i64.wrap (i + 1)) (tI (W v) + tI (W v)) e) → good .normal S1) : StepTo P X0 1 31 ll_b (ll_st n i v e) good :=
  step_run (ll_w0 n i v e) (ps_cons q0 (ps_cons (P2_W _ _) (ps_cons (neg_f q1) (ps_cons rfl (ps_cons rfl (ps_cons rfl (ps_cons rfl (ps_cons rfl (ps_cons rfl (ps_cons rfl ps_nil)))))))))) rfl hg
theorem ll_w1 (n : Int) (i : Int) (v : Int) (e : Int) (k_ : Nat) : stepF P X0 1 31 ll_b (ll_st n i v e) (.b false :: []) 1000 (fun _ => some (ll_st n i v e)) k_ =
  some ((.exit 0), k_, [(decide (i < n)) = false, (.int .i64 i : Value) = .int .i64 i, (.int .i64 e : Value) = .int .i64 e, (.int .i64 n : Value) = .int .i64 n, (.ptr 0 0 : SV) = .ptr 0 0, (.ptr 1 0 : SV) = .ptr 1 0, (W v : Value) = W v, (W 0 : Value) = W 0]) := by kernel_rfl
theorem ll_w1_ok (n : Int) (i : Int) (v : Int) (e : Int) (q0 : (decide (i < n)) = false)  {good : Out → St → Prop} (hg : ∀ S1, Keeps S1 (ll_st n i v e) → good (.exit 0) S1) : StepTo P X0 1 31 ll_b (ll_st n i v e) good :=
  step_run (ll_w1 n i v e) (ps_cons q0 (ps_cons rfl (ps_cons rfl (ps_cons rfl (ps_cons rfl (ps_cons rfl (ps_cons rfl (ps_cons rfl ps_nil)))))))) rfl hg
theorem ll_w2 (n : Int) (i : Int) (v : Int) (e : Int) (k_ : Nat) : stepF P X0 1 31 ll_b (ll_st n i v e) (.b true :: (.b true :: [])) 1000 (fun _ => some (ll_st n i v 20)) k_ =
  some (.ret, k_, [(decide (i < n)) = true, P2 [W v, W v], (!inRB (tI (W v) + tI (W v))) = true, (.int .i64 i : Value) = .int .i64 i, (.int .i64 20 : Value) = .int .i64 20, (.int .i64 n : Value) = .int .i64 n, (.ptr 0 0 : SV) = .ptr 0 0, (.ptr 1 0 : SV) = .ptr 1 0, (W v : Value) = W v, (W 0 : Value) = W 0]) := by kernel_rfl
theorem ll_w2_ok (n : Int) (i : Int) (v : Int) (e : Int) (q0 : (decide (i < n)) = true) (q1 : (inRB (tI (W v) + tI (W v))) = false)  {good : Out → St → Prop} (hg : ∀ S1, Keeps S1 (ll_st n i v 20) → good .ret S1) : StepTo P X0 1 31 ll_b (ll_st n i v e) good :=
  step_run (ll_w2 n i v e) (ps_cons q0 (ps_cons (P2_W _ _) (ps_cons (neg_t q1) (ps_cons rfl (ps_cons rfl (ps_cons rfl (ps_cons rfl (ps_cons rfl (ps_cons rfl (ps_cons rfl ps_nil)))))))))) rfl hg
theorem inR_half {a : Int} {k m : Nat} (h : k ≤ m) (hm : InR (a * 2 ^ m)) : InR (a * 2 ^ k) := by
  have e : (2 : Int) ^ m = 2 ^ k * 2 ^ (m - k) := by rw [← Int.pow_add]; congr 1; omega
  rw [e, ← Int.mul_assoc] at hm
  have p := pow2_pos (m - k)
  generalize (2 : Int) ^ (m - k) = q at *
  generalize a * 2 ^ k = b at *
  unfold InR at *
  by_cases hb : 0 ≤ b
  · have := Int.mul_le_mul_of_nonneg_left (show 1 ≤ q by omega) hb
    omega
  · have := Int.mul_le_mul_of_nonneg_left (show 1 ≤ q by omega) (show 0 ≤ -b by omega)
    rw [Int.neg_mul, Int.neg_mul] at this
    omega
theorem dbl (a : Int) (k : Nat) : a * 2 ^ k + a * 2 ^ k = a * 2 ^ (k + 1) := by rw [Int.pow_succ, ← Int.mul_assoc]; omega
noncomputable def ll_g (a n : Int) (k : Nat) : St := ll_st n (k : Int) (a * 2 ^ k) 0
theorem ll_go {a n : Int} (hn : 0 ≤ n ∧ n ≤ 254) {k : Nat} (hk : k < n.toNat) (h0 : InR (a * 2 ^ k)) (h1 : InR (a * 2 ^ (k + 1))) {good : Out → St → Prop} (hg : ∀ S1, Keeps S1 (ll_g a n (k + 1)) → good .normal S1) : StepTo P X0 1 31 ll_b (ll_g a n k) good := by
  have e0 : tI (W (a * 2 ^ k)) = a * 2 ^ k := tI_in h0
  refine ll_w0_ok n _ _ _ (decide_eq_true (by omega)) (by rw [e0, dbl]; exact inRB_of h1) fun S1 hk1 => hg S1 ?_
  rw [e0, dbl, wrap_i64_in (by omega) (by omega)] at hk1
  exact hk1
theorem ll_step {a n : Int} (hn : 0 ≤ n ∧ n ≤ 254) (hv : InR (a * 2 ^ n.toNat)) (k : Nat) (hk : k ≤ n.toNat) : StepTo P X0 1 31 ll_b (ll_g a n k) fun o S1 => (o = .normal ∧ ∃ g' : Nat, g' ≤ n.toNat ∧ n.toNat - g' < n.toNat - k ∧ Keeps S1 (ll_g a n g')) ∨ (o = .exit 0 ∧ Keeps S1 (ll_g a n n.toNat)) := by
  by_cases h : k < n.toNat
  · exact ll_go hn h (inR_half hk hv) (inR_half h hv) fun S1 hk1 => .inl ⟨rfl, k + 1, h, by omega, hk1⟩
  · have e : k = n.toNat := by omega
    subst e
    exact ll_w1_ok n _ _ _ (decide_eq_false (by omega)) fun S1 hk1 => .inr ⟨rfl, hk1⟩
noncomputable def ll_loop (a n : Int) (hn : 0 ≤ n ∧ n ≤ 254) (hv : InR (a * 2 ^ n.toNat)) : CodeC P :=
  loopC mo X0 (by rfl) 1 31 ll_b [1, 0] (ll_g a n) (fun k => k ≤ n.toNat) (fun k => n.toNat - k) (.exit 0) (ll_g a n n.toNat) (by simp) (fun _ => rfl) rfl (fun _ => by kernel_rfl) (by kernel_rfl) [] (fun _ => rfl) rfl
    (ll_step hn hv) 0 (Nat.zero_le _)
theorem lr_step {a n : Int} (hn : 0 ≤ n ∧ n ≤ 254) {m : Nat} (hm : m < n.toNat) (hv : InR (a * 2 ^ m)) (ho : inRB (a * 2 ^ (m + 1)) = false) (k : Nat) (hk : k ≤ m) : StepTo P X0 1 31 ll_b (ll_g a n k) fun o S1 => (o = .normal ∧ ∃ g' : Nat, g' ≤ m ∧ m - g' < m - k ∧ Keeps S1 (ll_g a n g')) ∨ (o = .ret ∧ Keeps S1 (ll_st n (m : Int) (a * 2 ^ m) 20)) := by
  by_cases h : k < m
  · exact ll_go hn (by omega) (inR_half hk hv) (inR_half h hv) fun S1 hk1 => .inl ⟨rfl, k + 1, h, by omega, hk1⟩
  · have e : k = m := by omega
    subst e
    have e0 : tI (W (a * 2 ^ k)) = a * 2 ^ k := tI_in hv
    exact ll_w2_ok n _ _ _ (decide_eq_true (by omega)) (by rw [e0, dbl]; exact ho) fun S1 hk1 => .inr ⟨rfl, hk1⟩
noncomputable def lr_loop (a n : Int) (hn : 0 ≤ n ∧ n ≤ 254) (m : Nat) (hm : m < n.toNat) (hv : InR (a * 2 ^ m)) (ho : inRB (a * 2 ^ (m + 1)) = false) : CodeC P :=
  loopC mo X0 (by rfl) 1 31 ll_b [1, 0] (ll_g a n) (fun k => k ≤ m) (fun k => m - k) .ret (ll_st n (m : Int) (a * 2 ^ m) 20) (by simp) (fun _ => rfl) rfl (fun _ => by kernel_rfl) (by kernel_rfl) [] (fun _ => rfl) rfl
    (lr_step hn hm hv ho) 0 (Nat.zero_le _)
noncomputable def ll_E (a n : Int) (hn : 0 ≤ n ∧ n ≤ 254) (hv : InR (a * 2 ^ n.toNat)) : Env P := ⟨⟨[], []⟩, [ll_loop a n hn hv], 10, []⟩
noncomputable def lr_E (a n : Int) (hn : 0 ≤ n ∧ n ≤ 254) (m : Nat) (hm : m < n.toNat) (hv : InR (a * 2 ^ m)) (ho : inRB (a * 2 ^ (m + 1)) = false) : Env P := ⟨⟨[], []⟩, [lr_loop a n hn m hm hv ho], 10, []⟩
theorem first_over {a : Int} (h0 : InR a) : ∀ {n : Nat}, inRB (a * 2 ^ n) = false → ∃ m, m < n ∧ InR (a * 2 ^ m) ∧ inRB (a * 2 ^ (m + 1)) = false
  | 0, h => by rw [Int.pow_zero, Int.mul_one, inRB_of h0] at h; cases h
  | n + 1, h => by
    cases c : inRB (a * 2 ^ n) with
    | true => exact ⟨n, by omega, inRB_iff.1 c, h⟩
    | false => obtain ⟨m, h1, h2, h3⟩ := first_over h0 c; exact ⟨m, by omega, h2, h3⟩
theorem LA_leaf (a n : Int) (hn : 0 ≤ n ∧ n ≤ 254) (hv : InR (a * 2 ^ n.toNat)) : Gives P 13 #[W a, .int .i64 n] (.tuple #[W (a * 2 ^ n.toNat), .int .i64 0]) :=
  gives_of_run (E := ll_E a n hn hv) (lv := 1) (ds := (.b false :: (.b false :: (.n 0 :: [])))) (v := .tuple #[W (a * 2 ^ n.toNat), .int .i64 0]) (ps := [(decide (n < 0)) = false, (decide (n > 254)) = false, Code.loop ll_b = innerOf P 13 0, (.int .i64 0 : Value) = .int .i64 ((0 : Nat) : Int), (.int .i64 0 : Value) = .int .i64 0, (.int .i64 n : Value) = .int .i64 n, (.ptr 0 0 : SV) = .ptr 0 0, (.ptr 1 0 : SV) = .ptr 1 0, (W a : Value) = W (a * 2 ^ 0), (W 0 : Value) = W 0]) mo (by kernel_rfl) (ps_cons (decide_eq_false (by omega)) (ps_cons (decide_eq_false (by omega)) (ps_cons (by kernel_rfl) (ps_cons rfl (ps_cons rfl (ps_cons rfl (ps_cons rfl (ps_cons rfl (ps_cons (by rw [Int.pow_zero, Int.mul_one]) (ps_cons rfl ps_nil)))))))))) rfl
theorem LB_leaf (a n : Int) (hn : 0 ≤ n ∧ n ≤ 254) (m : Nat) (hm : m < n.toNat) (hv : InR (a * 2 ^ m)) (ho : inRB (a * 2 ^ (m + 1)) = false) : Gives P 13 #[W a, .int .i64 n] (.tuple #[W 0, .int .i64 20]) :=
  gives_of_run (E := lr_E a n hn m hm hv ho) (lv := 1) (ds := (.b false :: (.b false :: (.n 0 :: [])))) (v := .tuple #[W 0, .int .i64 20]) (ps := [(decide (n < 0)) = false, (decide (n > 254)) = false, Code.loop ll_b = innerOf P 13 0, (.int .i64 0 : Value) = .int .i64 ((0 : Nat) : Int), (.int .i64 0 : Value) = .int .i64 0, (.int .i64 n : Value) = .int .i64 n, (.ptr 0 0 : SV) = .ptr 0 0, (.ptr 1 0 : SV) = .ptr 1 0, (W a : Value) = W (a * 2 ^ 0), (W 0 : Value) = W 0]) mo (by kernel_rfl) (ps_cons (decide_eq_false (by omega)) (ps_cons (decide_eq_false (by omega)) (ps_cons (by kernel_rfl) (ps_cons rfl (ps_cons rfl (ps_cons rfl (ps_cons rfl (ps_cons rfl (ps_cons (by rw [Int.pow_zero, Int.mul_one]) (ps_cons rfl ps_nil)))))))))) rfl
theorem LN_leaf (a n : Int) (h : n < 0) : Gives P 13 #[W a, .int .i64 n] (.tuple #[W 0, .int .i64 2]) :=
  gives_of_run (E := ⟨⟨[], []⟩, [], 10, []⟩) (lv := 1) (ds := (.b true :: [])) (v := .tuple #[W 0, .int .i64 2]) (ps := [(decide (n < 0)) = true]) mo (by kernel_rfl) (ps_cons (decide_eq_true (by omega)) ps_nil) rfl
theorem LM_leaf (a n : Int) (h : 0 ≤ n ∧ 254 < n) : Gives P 13 #[W a, .int .i64 n] (.tuple #[W 0, .int .i64 2]) :=
  gives_of_run (E := ⟨⟨[], []⟩, [], 10, []⟩) (lv := 1) (ds := (.b false :: (.b true :: []))) (v := .tuple #[W 0, .int .i64 2]) (ps := [(decide (n < 0)) = false, (decide (n > 254)) = true]) mo (by kernel_rfl) (ps_cons (decide_eq_false (by omega)) (ps_cons (decide_eq_true (by omega)) ps_nil)) rfl
theorem rLeft_all {a n : Int} (i1 : InR a) : Gives P 13 #[W a, .int .i64 n] (.tuple #[W (lv a n), .int .i64 (le a n)]) := by
  by_cases h1 : n < 0
  · have e : le a n = 2 := by unfold le; rw [if_pos (.inl h1)]
    unfold lv
    rw [e]
    exact LN_leaf a n h1
  by_cases h2 : 254 < n
  · have e : le a n = 2 := by unfold le; rw [if_pos (.inr h2)]
    unfold lv
    rw [e]
    exact LM_leaf a n ⟨by omega, h2⟩
  cases hv : inRB (a * 2 ^ n.toNat) with
  | true =>
    have e : le a n = 0 := by unfold le; rw [if_neg (by omega), hv]; rfl
    unfold lv
    rw [e, if_pos rfl]
    exact LA_leaf a n ⟨by omega, by omega⟩ (inRB_iff.1 hv)
  | false =>
    have e : le a n = 20 := by unfold le; rw [if_neg (by omega), hv]; rfl
    unfold lv
    rw [e]
    obtain ⟨m, hm, g1, g2⟩ := first_over i1 hv
    exact LB_leaf a n ⟨by omega, by omega⟩ m hm g1 g2
theorem rLeft_gives (args : List Value) (h : shP args) : Gives P 13 args.toArray (leftV args) := by
  unfold shP at h
  split at h
  · rename_i x n
    obtain ⟨ex, rx⟩ := isW_in h.1
    have key := rLeft_all (n := n) rx
    rw [← ex] at key
    exact key
  · exact h.elim
noncomputable def rcLeft : Ctr P := ⟨13, shP, leftV, rLeft_gives⟩
noncomputable def X1 : Env P := ⟨⟨[rcLeft, R3.cFloor, R3.one] ++ Rd.refC, []⟩, [], 10, []⟩
theorem RR1_run (a n : Int) : runF P X1 1 15 [W a, .int .i64 n] (.b true :: []) = some (.tuple #[W (lv (tI (W 1)) n), .int .i64 (le (tI (W 1)) n)], [noP [], shP [W 1, .int .i64 n], (le (tI (W 1)) n != 0) = true]) := by kernel_rfl
theorem RR0_run (a n : Int) : runF P X1 1 15 [W a, .int .i64 n] (.b false :: []) = some (.tuple #[W (qv fq (tI (W a)) (tI (W (lv (tI (W 1)) n)))), .int .i64 (qe (tI (W a)) (tI (W (lv (tI (W 1)) n))))], [noP [], shP [W 1, .int .i64 n], (le (tI (W 1)) n != 0) = false, P2 [W a, W (lv (tI (W 1)) n)]]) := by kernel_rfl
theorem one_W : tI (W 1) = 1 := tI_in (by unfold InR; decide)
theorem le1 {n : Int} (h : ¬(n < 0 ∨ 254 < n)) : le 1 n = 0 ∧ lv 1 n = 2 ^ n.toNat := by
  have e : le 1 n = 0 := by unfold le; rw [if_neg h, inRB_of (p2_R (by omega) (by omega))]; rfl
  refine ⟨e, ?_⟩
  unfold lv
  rw [e, if_pos rfl, Int.one_mul]
theorem le2 {n : Int} (h : n < 0 ∨ 254 < n) : le 1 n = 2 ∧ lv 1 n = 0 := by
  have e : le 1 n = 2 := by unfold le; rw [if_pos h]
  refine ⟨e, ?_⟩
  unfold lv
  rw [e]; rfl
theorem rRight_all {a n : Int} (i1 : InR a) (hn : I64 n) : Gives P 15 #[W a, .int .i64 n] (.tuple #[W (rv a n), .int .i64 (re a n)]) := by
  by_cases h : n < 0 ∨ 254 < n
  · obtain ⟨e1, e2⟩ := le2 h
    have e : re a n = 2 := by unfold re; rw [if_pos h]
    have R := RR1_run a n
    rw [one_W, e1, e2] at R
    unfold rv
    rw [e]
    exact gives_of_run mo R (ps_cons trivial (ps_cons ⟨⟨_, rfl⟩, hn⟩ (ps_cons rfl ps_nil))) rfl
  · obtain ⟨e1, e2⟩ := le1 h
    obtain ⟨s1, s2⟩ := p2_in (n := n) (by omega) (by omega)
    have R := RR0_run a n
    rw [one_W, e1, e2, tI_in i1, tI_in (inR_of s1)] at R
    refine gives_of_run mo R (ps_cons trivial (ps_cons ⟨⟨_, rfl⟩, hn⟩ (ps_cons rfl (ps_cons (P2_W _ _) ps_nil)))) ?_
    have q0 : (2 : Int) ^ n.toNat ≠ 0 := by omega
    by_cases ha : a = -HH
    · have e3 : qe a (2 ^ n.toNat) = 20 := by unfold qe; rw [if_neg q0, if_pos (.inl ha)]
      have e4 : re a n = 20 := by unfold re; rw [if_neg h, if_pos ha]
      unfold rv qv
      rw [e3, e4]
    · have e3 : qe a (2 ^ n.toNat) = 0 := by
        unfold qe
        rw [if_neg q0, if_neg]
        rintro (hh | hh)
        · exact ha hh
        · simp only [HH] at hh; omega
      have e4 : re a n = 0 := by unfold re; rw [if_neg h, if_neg ha]
      unfold rv qv
      rw [e3, e4, if_pos rfl]
theorem rRight_gives (args : List Value) (h : shP args) : Gives P 15 args.toArray (rightV args) := by
  unfold shP at h
  split at h
  · rename_i x n
    obtain ⟨ex, rx⟩ := isW_in h.1
    have key := rRight_all (n := n) rx h.2
    rw [← ex] at key
    exact key
  · exact h.elim
noncomputable def rcRight : Ctr P := ⟨15, shP, rightV, rRight_gives⟩
noncomputable def ref3W : List (Ctr P) := rcLeft :: rcRight :: ref3C
end Go.R3
