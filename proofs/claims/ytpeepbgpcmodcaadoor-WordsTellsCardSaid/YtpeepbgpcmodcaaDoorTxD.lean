/-
  Words: the reference's count. Printed by wdD.py.
-/
import Derived.Test.YtpeepbgpcmodcaaDoorTxQ
set_option maxRecDepth 100000
namespace Go.Tx
open Go Go.RowKit Go.Sx Go.Proofs
noncomputable def Z4 : Env P := ⟨⟨[nx_c], [], []⟩, [], 10, []⟩
noncomputable def rc_b : Code := bodyOf (innerOf P 15 0)
def rc_st  (t : ByteArray) (n : Int) : St := ⟨[(0, .v (.string t)), (3, .v (.int .i64 n))], [], [], [], []⟩
theorem rc_w0  (t : ByteArray) (n : Int) (k_ : Nat) : stepF P Z4 1 22 rc_b (rc_st  t n) (.b true :: []) 1000 (fun _ => some (rc_st  (t.extract (n1 t : Int).toNat t.size) (IntKind.i64.wrap (n + 1)))) k_ =
  some (.normal, k_, [(decide (((t.size : Nat) : Int) > 0)) = true, sP (fun _ => True) [.string t], 0 ≤ n1 t ∧ n1 t ≤ ((t.size : Nat) : Int), (.string (t.extract (n1 t : Int).toNat t.size) : Value) = .string (t.extract (n1 t : Int).toNat t.size), (.int .i64 (IntKind.i64.wrap (n + 1)) : Value) = .int .i64 (IntKind.i64.wrap (n + 1))]) := by kernel_rfl
theorem rc_w0_ok  (t : ByteArray) (n : Int) (q0 : (decide (((t.size : Nat) : Int) > 0)) = true) (x0 : 0 ≤ n1 t ∧ n1 t ≤ ((t.size : Nat) : Int)) {good : Out → St → Prop} (hg : ∀ S1, Keeps S1 (rc_st  (t.extract (n1 t : Int).toNat t.size) (IntKind.i64.wrap (n + 1))) → good .normal S1) : StepTo P Z4 1 22 rc_b (rc_st  t n) good :=
  step_run (rc_w0  t n) (ps_cons q0 (ps_cons trivial (ps_cons x0 (ps_cons rfl (ps_cons rfl ps_nil))))) rfl hg
theorem rc_w1  (t : ByteArray) (n : Int) (k_ : Nat) : stepF P Z4 1 22 rc_b (rc_st  t n) (.b false :: []) 1000 (fun _ => some (rc_st  t n)) k_ =
  some ((.exit 0), k_, [(decide (((t.size : Nat) : Int) > 0)) = false, (.string t : Value) = .string t, (.int .i64 n : Value) = .int .i64 n]) := by kernel_rfl
theorem rc_w1_ok  (t : ByteArray) (n : Int) (q0 : (decide (((t.size : Nat) : Int) > 0)) = false)  {good : Out → St → Prop} (hg : ∀ S1, Keeps S1 (rc_st  t n) → good (.exit 0) S1) : StepTo P Z4 1 22 rc_b (rc_st  t n) good :=
  step_run (rc_w1  t n) (ps_cons q0 (ps_cons rfl (ps_cons rfl ps_nil))) rfl hg
noncomputable def rc_g (s : ByteArray) (k : Nat) : St := rc_st (tl s k) (k : Int)
theorem rc_step {s : ByteArray} (hs : s.size ≤ 1000000) (k : Nat) (hk : k ≤ cn s) : StepTo P Z4 1 22 rc_b (rc_g s k) fun o S1 => (o = .normal ∧ ∃ g' : Nat, g' ≤ cn s ∧ cn s - g' < cn s - k ∧ Keeps S1 (rc_g s g')) ∨ (o = .exit 0 ∧ Keeps S1 (rc_g s (cn s))) := by
  by_cases h : k < cn s
  · have hp := tl_pos h
    refine rc_w0_ok _ _ (decide_eq_true (by omega)) (tl_le h) fun S1 hk1 => .inl ⟨rfl, k + 1, h, by omega, ?_⟩
    have := cn_le s
    have e1 : IntKind.i64.wrap ((k : Int) + 1) = ((k + 1 : Nat) : Int) := by rw [wr (by omega) (by omega)]; rfl
    rw [e1, tl_next h] at hk1
    exact hk1
  · have e : k = cn s := by omega
    subst e
    exact rc_w1_ok _ _ (decide_eq_false (by have := tl_end s; omega)) fun S1 hk1 => .inr ⟨rfl, hk1⟩
noncomputable def rc_loop (s : ByteArray) (hs : s.size ≤ 1000000) : CodeC P :=
  loopC mo Z4 (by rfl) 1 22 rc_b [] (rc_g s) (fun k => k ≤ cn s) (fun k => cn s - k) (.exit 0) (rc_g s (cn s)) (by simp) (fun _ => rfl) rfl (fun _ => by kernel_rfl) (by kernel_rfl) [] (fun _ => rfl) rfl
    (rc_step hs) 0 (Nat.zero_le _)
noncomputable def rc_E (s : ByteArray) (hs : s.size ≤ 1000000) : Env P := ⟨⟨[], [], []⟩, [rc_loop s hs], 10, []⟩
theorem rc_str (s : ByteArray) (hs : s.size ≤ 1000000) : Gives P 15 #[.string s] (.int .i64 ((cn s : Nat) : Int)) :=
  gives_of_run (E := rc_E s hs) (lv := 2) (ds := (.n 0 :: [])) (v := .int .i64 ((cn s : Nat) : Int)) (ps := [Code.loop rc_b = innerOf P 15 0, (.string s : Value) = .string (tl s 0), (.int .i64 0 : Value) = .int .i64 ((0 : Nat) : Int)]) mo (by kernel_rfl) (ps_cons (by kernel_rfl) (ps_cons (by rw [tl_zero]) (ps_cons rfl ps_nil))) rfl
end Go.Tx
