/-
  Words: counts. Printed by wdA.py.
-/
import Derived.Test.YtpeepbgpcmodcaaDoorTxP
set_option maxRecDepth 100000
namespace Go.Tx
open Go Go.RowKit Go.Sx Go.Proofs
theorem wr {n : Int} (h1 : -9223372036854775808 ≤ n) (h2 : n ≤ 9223372036854775807) : IntKind.i64.wrap n = n := by
  have e : IntKind.i64.wrap n = if n % 18446744073709551616 ≥ 9223372036854775808 then n % 18446744073709551616 - 18446744073709551616 else n % 18446744073709551616 := by
    simp [IntKind.wrap, IntKind.signed, IntKind.bits]
  rw [e]
  split <;> omega
noncomputable def Z0 : Env P := ⟨⟨[], [], []⟩, [], 10, []⟩
noncomputable def ct_b : Code := bodyOf (innerOf P 14 0)
def ct_st (s : ByteArray) (n : Int) (p : Nat) : St := ⟨[(2, .v (.int .i64 n)), (4, .ptr 2 0)], [(2, (.iter s p, 0))], [], [2], []⟩
theorem ct_w0 (s : ByteArray) (n : Int) (p : Nat) (k_ : Nat) : stepF P Z0 1 10 ct_b (ct_st s n p) (.b true :: []) 1000 (fun _ => some (ct_st s (IntKind.i64.wrap (n + 1)) (p + (Utf8.decode s p).2))) k_ =
  some (.normal, k_, [p < s.size, (.int .i64 (IntKind.i64.wrap (n + 1)) : Value) = .int .i64 (IntKind.i64.wrap (n + 1)), (.ptr 2 0 : SV) = .ptr 2 0, s = s, p + (Utf8.decode s p).2 = p + (Utf8.decode s p).2]) := by kernel_rfl
theorem ct_w0_ok (s : ByteArray) (n : Int) (p : Nat) (q0 : p < s.size)  {good : Out → St → Prop} (hg : ∀ S1, Keeps S1 (ct_st s (IntKind.i64.wrap (n + 1)) (p + (Utf8.decode s p).2)) → good .normal S1) : StepTo P Z0 1 10 ct_b (ct_st s n p) good :=
  step_run (ct_w0 s n p) (ps_cons q0 (ps_cons rfl (ps_cons rfl (ps_cons rfl (ps_cons rfl ps_nil))))) rfl hg
theorem ct_w1 (s : ByteArray) (n : Int) (p : Nat) (k_ : Nat) : stepF P Z0 1 10 ct_b (ct_st s n p) (.b false :: []) 1000 (fun _ => some (ct_st s n p)) k_ =
  some ((.exit 0), k_, [¬ p < s.size, (.int .i64 n : Value) = .int .i64 n, (.ptr 2 0 : SV) = .ptr 2 0, s = s, p = p]) := by kernel_rfl
theorem ct_w1_ok (s : ByteArray) (n : Int) (p : Nat) (q0 : ¬ p < s.size)  {good : Out → St → Prop} (hg : ∀ S1, Keeps S1 (ct_st s n p) → good (.exit 0) S1) : StepTo P Z0 1 10 ct_b (ct_st s n p) good :=
  step_run (ct_w1 s n p) (ps_cons q0 (ps_cons rfl (ps_cons rfl (ps_cons rfl (ps_cons rfl ps_nil))))) rfl hg
noncomputable def ct_g (s : ByteArray) (k : Nat) : St := ct_st s (k : Int) (ps s k)
theorem ct_step {s : ByteArray} (hs : s.size ≤ 1000000) (k : Nat) (hk : k ≤ cn s) : StepTo P Z0 1 10 ct_b (ct_g s k) fun o S1 => (o = .normal ∧ ∃ g' : Nat, g' ≤ cn s ∧ cn s - g' < cn s - k ∧ Keeps S1 (ct_g s g')) ∨ (o = .exit 0 ∧ Keeps S1 (ct_g s (cn s))) := by
  by_cases h : k < cn s
  · refine ct_w0_ok s _ _ (cn_lt h) fun S1 hk1 => .inl ⟨rfl, k + 1, h, by omega, ?_⟩
    have := cn_le s
    have e1 : IntKind.i64.wrap ((k : Int) + 1) = ((k + 1 : Nat) : Int) := by rw [wr (by omega) (by omega)]; rfl
    rw [e1] at hk1
    exact hk1
  · have e : k = cn s := by omega
    subst e
    exact ct_w1_ok s _ _ (by have := cn_end s; omega) fun S1 hk1 => .inr ⟨rfl, hk1⟩
noncomputable def ct_loop (s : ByteArray) (hs : s.size ≤ 1000000) : CodeC P :=
  loopC mo Z0 (by rfl) 1 10 ct_b [2] (ct_g s) (fun k => k ≤ cn s) (fun k => cn s - k) (.exit 0) (ct_g s (cn s)) (by simp) (fun _ => rfl) rfl (fun _ => by kernel_rfl) (by kernel_rfl) [] (fun _ => rfl) rfl
    (ct_step hs) 0 (Nat.zero_le _)
noncomputable def ct_E (s : ByteArray) (hs : s.size ≤ 1000000) : Env P := ⟨⟨[], [], []⟩, [ct_loop s hs], 10, []⟩
theorem ct_str (s : ByteArray) (hs : s.size ≤ 1000000) : Gives P 14 #[.string s] (.int .i64 ((cn s : Nat) : Int)) :=
  gives_of_run (E := ct_E s hs) (lv := 2) (ds := (.n 0 :: [])) (v := .int .i64 ((cn s : Nat) : Int)) (ps := [Code.loop ct_b = innerOf P 14 0, (.int .i64 0 : Value) = .int .i64 ((0 : Nat) : Int), (.ptr 2 0 : SV) = .ptr 2 0, s = s, 0 = ps s 0]) mo (by kernel_rfl) (ps_cons (by kernel_rfl) (ps_cons rfl (ps_cons rfl (ps_cons rfl (ps_cons rfl ps_nil))))) rfl
end Go.Tx
