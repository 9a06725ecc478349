/-
  Sums of wide numbers over any row. Printed by tell2.py.
-/
import Derived.Test.YtdnpnccieabmiaaDoorLawA
import Derived.Test.YtdnpnccieabmiaaDoorRfb
set_option maxRecDepth 100000
namespace Go.Tw
open Go Go.RowKit Go.Sx Go.Nm Go.Wd Go.Proofs
def sW (x : Nat → Int) : Nat → Int
  | 0 => 0
  | k + 1 => tI (W (sW x k)) + tI (W (x k))
def sO (x : Nat → Int) : Nat → Bool
  | 0 => false
  | k + 1 => sO x k || !inRB (tI (W (sW x k)) + tI (W (x k)))
def sumP : List DV → Prop
  | [.row q] => q.sz = 4 ∧ q.n ≤ 1000000 ∧ ∀ j, j < q.n → IsW (q.el j)
  | [.v x] => x = .slice none 0 0
  | _ => False
def sumV : List DV → Value
  | [.row q] => .tuple #[W (sW (fun j => tI (q.el j)) q.n), .bool (sO (fun j => tI (q.el j)) q.n)]
  | _ => .tuple #[W 0, .bool false]
theorem isW_in {x : Value} (h : IsW x) : x = W (tI x) ∧ InR (tI x) := by
  obtain ⟨n, rfl⟩ := h
  rw [tI_W]
  exact ⟨(W_congr (bm_mod n)).symm, bm_range n⟩
theorem row_el {P : Program} {f : FuncId} {ty ty2 sz n : Nat} {el el' : Nat → Value} {own : Bool} {v : Value} (h : GivesD P f [.row ⟨ty2, sz, n, el', false⟩] v) (he : ∀ j, j < n → el' j = el j) : GivesD P f [.row ⟨ty, sz, n, el, own⟩] v :=
  fun F m o a W K Q args h1 h2 h3 h4 h5 h6 => h F m o a W K Q args h1 h2 h3 h4 (by
    match args, h5 with
    | [_], ⟨⟨p, hp, w⟩, g3⟩ =>
      refine ⟨⟨p, hp, w.n, w.cap, fun e => (by cases e), ?_⟩, g3⟩
      obtain ⟨cells, ty', fr, hc, _, hel⟩ := w.mem
      refine ⟨cells, ty', fr, hc, fun e => (by cases e), fun j hj => ?_⟩
      show (el' j).cells.size = sz ∧ ∀ i, i < sz → cells[p.off + (j * sz + i)]? = (el' j).cells[i]?
      rw [he j hj]
      exact hel j hj) h6
noncomputable def S0 : Env P := ⟨⟨wideC, []⟩, [], 10, []⟩
noncomputable def S1 : Env P := ⟨⟨Rd.refC, []⟩, [], 10, []⟩
noncomputable def ws_b : Code := bodyOf (innerOf P 29 0)
def ws_st (n : Nat) (x : Nat → Int) (i : Int) (a : Int) (o : Bool) : St := ⟨[(10, .v (.int .i64 i)), (3, .v (.bool o)), (9, .v (.int .i64 ((n : Nat) : Int))), (8, .row 900), (2, .ptr 1 0), (0, .row 900)], [(1, (.whole (W a), 56))], [], [900, 1, 0], [(900, some ⟨56, 4, n, fun j => W (x j), false⟩)]⟩
theorem ws_w0 (n : Nat) (x : Nat → Int) (i : Int) (a : Int) (o : Bool) (k_ : Nat) : stepF P S0 1 28 ws_b (ws_st n x i a o) (.b true :: (.n i.toNat :: (.b true :: []))) 1000 (fun _ => some (ws_st n x (IntKind.i64.wrap (i + 1)) (tI (W a) + tI (W (x i.toNat))) true)) k_ =
  some (.normal, k_, [(decide (i < ((n : Nat) : Int))) = true, i = ↑i.toNat, i.toNat < n, i.toNat < n, P2 [W a, W (x i.toNat)], o = true, (.int .i64 (IntKind.i64.wrap (i + 1)) : Value) = .int .i64 (IntKind.i64.wrap (i + 1)), (.bool true : Value) = .bool true, (.int .i64 ((n : Nat) : Int) : Value) = .int .i64 ((n : Nat) : Int), (.row 900 : SV) = .row 900, (.ptr 1 0 : SV) = .ptr 1 0, (.row 900 : SV) = .row 900, (W (tI (W a) + tI (W (x i.toNat))) : Value) = W (tI (W a) + tI (W (x i.toNat))), n = n, ∀ j, j < n → W (x j) = W (x j)]) := by kernel_rfl
theorem ws_w0_ok (n : Nat) (x : Nat → Int) (i : Int) (a : Int) (o : Bool) (q0 : (decide (i < ((n : Nat) : Int))) = true) (q1 : (o) = true) (x0 : i = ↑i.toNat) (x1 : i.toNat < n) (x2 : i.toNat < n) {good : Out → St → Prop} (hg : ∀ S1, Keeps S1 (ws_st n x (IntKind.i64.wrap (i + 1)) (tI (W a) + tI (W (x i.toNat))) true) → good .normal S1) : StepTo P S0 1 28 ws_b (ws_st n x i a o) good :=
  step_run (ws_w0 n x i a o) (ps_cons q0 (ps_cons x0 (ps_cons x1 (ps_cons x2 (ps_cons (P2_W _ _) (ps_cons q1 (ps_cons rfl (ps_cons rfl (ps_cons rfl (ps_cons rfl (ps_cons rfl (ps_cons rfl (ps_cons rfl (ps_cons rfl (ps_cons (fun _ _ => rfl) ps_nil))))))))))))))) rfl hg
theorem ws_w1 (n : Nat) (x : Nat → Int) (i : Int) (a : Int) (o : Bool) (k_ : Nat) : stepF P S0 1 28 ws_b (ws_st n x i a o) (.b false :: []) 1000 (fun _ => some (ws_st n x i a o)) k_ =
  some ((.exit 0), k_, [(decide (i < ((n : Nat) : Int))) = false, (.int .i64 i : Value) = .int .i64 i, (.bool o : Value) = .bool o, (.int .i64 ((n : Nat) : Int) : Value) = .int .i64 ((n : Nat) : Int), (.row 900 : SV) = .row 900, (.ptr 1 0 : SV) = .ptr 1 0, (.row 900 : SV) = .row 900, (W a : Value) = W a, n = n, ∀ j, j < n → W (x j) = W (x j)]) := by kernel_rfl
theorem ws_w1_ok (n : Nat) (x : Nat → Int) (i : Int) (a : Int) (o : Bool) (q0 : (decide (i < ((n : Nat) : Int))) = false)  {good : Out → St → Prop} (hg : ∀ S1, Keeps S1 (ws_st n x i a o) → good (.exit 0) S1) : StepTo P S0 1 28 ws_b (ws_st n x i a o) good :=
  step_run (ws_w1 n x i a o) (ps_cons q0 (ps_cons rfl (ps_cons rfl (ps_cons rfl (ps_cons rfl (ps_cons rfl (ps_cons rfl (ps_cons rfl (ps_cons rfl (ps_cons (fun _ _ => rfl) ps_nil)))))))))) rfl hg
theorem ws_w2 (n : Nat) (x : Nat → Int) (i : Int) (a : Int) (o : Bool) (k_ : Nat) : stepF P S0 1 28 ws_b (ws_st n x i a o) (.b true :: (.n i.toNat :: (.b false :: []))) 1000 (fun _ => some (ws_st n x (IntKind.i64.wrap (i + 1)) (tI (W a) + tI (W (x i.toNat))) (!inRB (tI (W a) + tI (W (x i.toNat)))))) k_ =
  some (.normal, k_, [(decide (i < ((n : Nat) : Int))) = true, i = ↑i.toNat, i.toNat < n, i.toNat < n, P2 [W a, W (x i.toNat)], o = false, (.int .i64 (IntKind.i64.wrap (i + 1)) : Value) = .int .i64 (IntKind.i64.wrap (i + 1)), (.bool (!inRB (tI (W a) + tI (W (x i.toNat)))) : Value) = .bool (!inRB (tI (W a) + tI (W (x i.toNat)))), (.int .i64 ((n : Nat) : Int) : Value) = .int .i64 ((n : Nat) : Int), (.row 900 : SV) = .row 900, (.ptr 1 0 : SV) = .ptr 1 0, (.row 900 : SV) = .row 900, (W (tI (W a) + tI (W (x i.toNat))) : Value) = W (tI (W a) + tI (W (x i.toNat))), n = n, ∀ j, j < n → W (x j) = W (x j)]) := by kernel_rfl
theorem ws_w2_ok (n : Nat) (x : Nat → Int) (i : Int) (a : Int) (o : Bool) (q0 : (decide (i < ((n : Nat) : Int))) = true) (q1 : (o) = false) (x0 : i = ↑i.toNat) (x1 : i.toNat < n) (x2 : i.toNat < n) {good : Out → St → Prop} (hg : ∀ S1, Keeps S1 (ws_st n x (IntKind.i64.wrap (i + 1)) (tI (W a) + tI (W (x i.toNat))) (!inRB (tI (W a) + tI (W (x i.toNat))))) → good .normal S1) : StepTo P S0 1 28 ws_b (ws_st n x i a o) good :=
  step_run (ws_w2 n x i a o) (ps_cons q0 (ps_cons x0 (ps_cons x1 (ps_cons x2 (ps_cons (P2_W _ _) (ps_cons q1 (ps_cons rfl (ps_cons rfl (ps_cons rfl (ps_cons rfl (ps_cons rfl (ps_cons rfl (ps_cons rfl (ps_cons rfl (ps_cons (fun _ _ => rfl) ps_nil))))))))))))))) rfl hg
noncomputable def ws_g (n : Nat) (x : Nat → Int) (k : Nat) : St := ws_st n x (k : Int) (sW x k) (sO x k)
theorem ws_step {n : Nat} {x : Nat → Int} (hn : n ≤ 1000000) (k : Nat) (hk : k ≤ n) : StepTo P S0 1 28 ws_b (ws_g n x k) fun o S1 => (o = .normal ∧ ∃ g' : Nat, g' ≤ n ∧ n - g' < n - k ∧ Keeps S1 (ws_g n x g')) ∨ (o = .exit 0 ∧ Keeps S1 (ws_g n x n)) := by
  by_cases h : k < n
  · have q0 : decide ((k : Int) < ((n : Nat) : Int)) = true := decide_eq_true (by omega)
    have e1 : IntKind.i64.wrap ((k : Int) + 1) = ((k + 1 : Nat) : Int) := by rw [wrap_i64_in (by omega) (by omega)]; rfl
    have x0 : (k : Int) = (((k : Int).toNat : Nat) : Int) := by omega
    cases q1 : sO x k with
    | true =>
      refine ws_w0_ok n x _ _ _ q0 q1 x0 h h fun S1 hk1 => .inl ⟨rfl, k + 1, h, by omega, ?_⟩
      have eo : sO x (k + 1) = true := by show (sO x k || _) = true; rw [q1]; rfl
      unfold ws_g
      rw [eo]
      rw [e1] at hk1
      exact hk1
    | false =>
      refine ws_w2_ok n x _ _ _ q0 q1 x0 h h fun S1 hk1 => .inl ⟨rfl, k + 1, h, by omega, ?_⟩
      have eo : sO x (k + 1) = !inRB (tI (W (sW x k)) + tI (W (x k))) := by show (sO x k || _) = _; rw [q1]; rfl
      unfold ws_g
      rw [eo]
      rw [e1] at hk1
      exact hk1
  · have e : k = n := by omega
    subst e
    exact ws_w1_ok k x _ _ _ (decide_eq_false (by omega)) fun S1 hk1 => .inr ⟨rfl, hk1⟩
noncomputable def ws_loop (n : Nat) (x : Nat → Int) (hn : n ≤ 1000000) : CodeC P :=
  loopC mo S0 (by rfl) 1 28 ws_b [900, 1, 0] (ws_g n x) (fun k => k ≤ n) (fun k => n - k) (.exit 0) (ws_g n x n) (by simp) (fun _ => rfl) rfl (fun _ => by kernel_rfl) (by kernel_rfl) [900] (fun _ => rfl) rfl
    (ws_step hn) 0 (Nat.zero_le _)
noncomputable def ws_E (n : Nat) (x : Nat → Int) (hn : n ≤ 1000000) : Env P := ⟨⟨[], []⟩, [ws_loop n x hn], 10, []⟩
theorem ws_row (n : Nat) (x : Nat → Int) (hn : n ≤ 1000000) : GivesD P 29 [.row ⟨56, 4, n, fun j => W (x j), false⟩] (.tuple #[W (sW x n), .bool (sO x n)]) :=
  givesD_of_run (E := ws_E n x hn) (lv := 1) (ds := (.n 0 :: [])) (v := .tuple #[W (sW x n), .bool (sO x n)]) (ps := [Code.loop ws_b = innerOf P 29 0, (.int .i64 0 : Value) = .int .i64 ((0 : Nat) : Int), (.bool false : Value) = .bool (sO x 0), (.int .i64 ((n : Nat) : Int) : Value) = .int .i64 ((n : Nat) : Int), (.row 0 : SV) = .row 0, (.ptr 1 0 : SV) = .ptr 1 0, (.row 0 : SV) = .row 0, (W 0 : Value) = W (sW x 0), n = n, ∀ j, j < n → W (x j) = W (x j)]) mo (by kernel_rfl) (ps_cons (by kernel_rfl) (ps_cons rfl (ps_cons rfl (ps_cons rfl (ps_cons rfl (ps_cons rfl (ps_cons rfl (ps_cons rfl (ps_cons rfl (ps_cons (fun _ _ => rfl) ps_nil)))))))))) rfl
theorem ws_nil : GivesD P 29 [.v (.slice none 0 0)] (.tuple #[W 0, .bool false]) :=
  givesD_of_run (E := S0) (lv := 1) (ds := []) (v := .tuple #[W 0, .bool false]) (ps := []) mo (by kernel_rfl) ps_nil rfl
theorem ws_gives (ds : List DV) (h : sumP ds) : GivesD P 29 ds (sumV ds) := by
  unfold sumP at h
  split at h
  · rename_i q
    obtain ⟨ty, sz, n, el, own⟩ := q
    obtain ⟨rfl, hn, he⟩ := h
    exact row_el (ws_row n (fun j => tI (el j)) hn) fun j hj => (isW_in (he j hj)).1.symm
  · subst h
    exact ws_nil
  · exact h.elim
noncomputable def ws_c : CtrD P := ⟨29, sumP, sumV, ws_gives⟩
noncomputable def rs_b : Code := bodyOf (innerOf P 34 0)
def rs_st (n : Nat) (x : Nat → Int) (i : Int) (a : Int) (o : Bool) : St := ⟨[(6, .v (.int .i64 i)), (5, .v (.bool o)), (4, .ptr 3 0), (3, .v (.bool false)), (2, .ptr 1 0), (0, .row 900)], [(1, (.whole (W 0), 56)), (3, (.whole (W a), 56))], [], [900, 3, 1, 0], [(900, some ⟨56, 4, n, fun j => W (x j), false⟩)]⟩
theorem rs_w0 (n : Nat) (x : Nat → Int) (i : Int) (a : Int) (o : Bool) (k_ : Nat) : stepF P S1 1 31 rs_b (rs_st n x i a o) (.b true :: (.n i.toNat :: (.b true :: []))) 1000 (fun _ => some (rs_st n x (IntKind.i64.wrap (i + 1)) (tI (W a) + tI (W (x i.toNat))) true)) k_ =
  some (.normal, k_, [(decide (i < ((n : Nat) : Int))) = true, i = ↑i.toNat, i.toNat < n, i.toNat < n, P2 [W a, W (x i.toNat)], o = true, (.int .i64 (IntKind.i64.wrap (i + 1)) : Value) = .int .i64 (IntKind.i64.wrap (i + 1)), (.bool true : Value) = .bool true, (.ptr 3 0 : SV) = .ptr 3 0, (.bool false : Value) = .bool false, (.ptr 1 0 : SV) = .ptr 1 0, (.row 900 : SV) = .row 900, (W 0 : Value) = W 0, (W (tI (W a) + tI (W (x i.toNat))) : Value) = W (tI (W a) + tI (W (x i.toNat))), n = n, ∀ j, j < n → W (x j) = W (x j)]) := by kernel_rfl
theorem rs_w0_ok (n : Nat) (x : Nat → Int) (i : Int) (a : Int) (o : Bool) (q0 : (decide (i < ((n : Nat) : Int))) = true) (q1 : (o) = true) (x0 : i = ↑i.toNat) (x1 : i.toNat < n) (x2 : i.toNat < n) {good : Out → St → Prop} (hg : ∀ S1, Keeps S1 (rs_st n x (IntKind.i64.wrap (i + 1)) (tI (W a) + tI (W (x i.toNat))) true) → good .normal S1) : StepTo P S1 1 31 rs_b (rs_st n x i a o) good :=
  step_run (rs_w0 n x i a o) (ps_cons q0 (ps_cons x0 (ps_cons x1 (ps_cons x2 (ps_cons (P2_W _ _) (ps_cons q1 (ps_cons rfl (ps_cons rfl (ps_cons rfl (ps_cons rfl (ps_cons rfl (ps_cons rfl (ps_cons rfl (ps_cons rfl (ps_cons rfl (ps_cons (fun _ _ => rfl) ps_nil)))))))))))))))) rfl hg
theorem rs_w1 (n : Nat) (x : Nat → Int) (i : Int) (a : Int) (o : Bool) (k_ : Nat) : stepF P S1 1 31 rs_b (rs_st n x i a o) (.b false :: []) 1000 (fun _ => some (rs_st n x i a o)) k_ =
  some ((.exit 0), k_, [(decide (i < ((n : Nat) : Int))) = false, (.int .i64 i : Value) = .int .i64 i, (.bool o : Value) = .bool o, (.ptr 3 0 : SV) = .ptr 3 0, (.bool false : Value) = .bool false, (.ptr 1 0 : SV) = .ptr 1 0, (.row 900 : SV) = .row 900, (W 0 : Value) = W 0, (W a : Value) = W a, n = n, ∀ j, j < n → W (x j) = W (x j)]) := by kernel_rfl
theorem rs_w1_ok (n : Nat) (x : Nat → Int) (i : Int) (a : Int) (o : Bool) (q0 : (decide (i < ((n : Nat) : Int))) = false)  {good : Out → St → Prop} (hg : ∀ S1, Keeps S1 (rs_st n x i a o) → good (.exit 0) S1) : StepTo P S1 1 31 rs_b (rs_st n x i a o) good :=
  step_run (rs_w1 n x i a o) (ps_cons q0 (ps_cons rfl (ps_cons rfl (ps_cons rfl (ps_cons rfl (ps_cons rfl (ps_cons rfl (ps_cons rfl (ps_cons rfl (ps_cons rfl (ps_cons (fun _ _ => rfl) ps_nil))))))))))) rfl hg
theorem rs_w2 (n : Nat) (x : Nat → Int) (i : Int) (a : Int) (o : Bool) (k_ : Nat) : stepF P S1 1 31 rs_b (rs_st n x i a o) (.b true :: (.n i.toNat :: (.b false :: []))) 1000 (fun _ => some (rs_st n x (IntKind.i64.wrap (i + 1)) (tI (W a) + tI (W (x i.toNat))) (!inRB (tI (W a) + tI (W (x i.toNat)))))) k_ =
  some (.normal, k_, [(decide (i < ((n : Nat) : Int))) = true, i = ↑i.toNat, i.toNat < n, i.toNat < n, P2 [W a, W (x i.toNat)], o = false, (.int .i64 (IntKind.i64.wrap (i + 1)) : Value) = .int .i64 (IntKind.i64.wrap (i + 1)), (.bool (!inRB (tI (W a) + tI (W (x i.toNat)))) : Value) = .bool (!inRB (tI (W a) + tI (W (x i.toNat)))), (.ptr 3 0 : SV) = .ptr 3 0, (.bool false : Value) = .bool false, (.ptr 1 0 : SV) = .ptr 1 0, (.row 900 : SV) = .row 900, (W 0 : Value) = W 0, (W (tI (W a) + tI (W (x i.toNat))) : Value) = W (tI (W a) + tI (W (x i.toNat))), n = n, ∀ j, j < n → W (x j) = W (x j)]) := by kernel_rfl
theorem rs_w2_ok (n : Nat) (x : Nat → Int) (i : Int) (a : Int) (o : Bool) (q0 : (decide (i < ((n : Nat) : Int))) = true) (q1 : (o) = false) (x0 : i = ↑i.toNat) (x1 : i.toNat < n) (x2 : i.toNat < n) {good : Out → St → Prop} (hg : ∀ S1, Keeps S1 (rs_st n x (IntKind.i64.wrap (i + 1)) (tI (W a) + tI (W (x i.toNat))) (!inRB (tI (W a) + tI (W (x i.toNat))))) → good .normal S1) : StepTo P S1 1 31 rs_b (rs_st n x i a o) good :=
  step_run (rs_w2 n x i a o) (ps_cons q0 (ps_cons x0 (ps_cons x1 (ps_cons x2 (ps_cons (P2_W _ _) (ps_cons q1 (ps_cons rfl (ps_cons rfl (ps_cons rfl (ps_cons rfl (ps_cons rfl (ps_cons rfl (ps_cons rfl (ps_cons rfl (ps_cons rfl (ps_cons (fun _ _ => rfl) ps_nil)))))))))))))))) rfl hg
noncomputable def rs_g (n : Nat) (x : Nat → Int) (k : Nat) : St := rs_st n x (k : Int) (sW x k) (sO x k)
theorem rs_step {n : Nat} {x : Nat → Int} (hn : n ≤ 1000000) (k : Nat) (hk : k ≤ n) : StepTo P S1 1 31 rs_b (rs_g n x k) fun o S1 => (o = .normal ∧ ∃ g' : Nat, g' ≤ n ∧ n - g' < n - k ∧ Keeps S1 (rs_g n x g')) ∨ (o = .exit 0 ∧ Keeps S1 (rs_g n x n)) := by
  by_cases h : k < n
  · have q0 : decide ((k : Int) < ((n : Nat) : Int)) = true := decide_eq_true (by omega)
    have e1 : IntKind.i64.wrap ((k : Int) + 1) = ((k + 1 : Nat) : Int) := by rw [wrap_i64_in (by omega) (by omega)]; rfl
    have x0 : (k : Int) = (((k : Int).toNat : Nat) : Int) := by omega
    cases q1 : sO x k with
    | true =>
      refine rs_w0_ok n x _ _ _ q0 q1 x0 h h fun S1 hk1 => .inl ⟨rfl, k + 1, h, by omega, ?_⟩
      have eo : sO x (k + 1) = true := by show (sO x k || _) = true; rw [q1]; rfl
      unfold rs_g
      rw [eo]
      rw [e1] at hk1
      exact hk1
    | false =>
      refine rs_w2_ok n x _ _ _ q0 q1 x0 h h fun S1 hk1 => .inl ⟨rfl, k + 1, h, by omega, ?_⟩
      have eo : sO x (k + 1) = !inRB (tI (W (sW x k)) + tI (W (x k))) := by show (sO x k || _) = _; rw [q1]; rfl
      unfold rs_g
      rw [eo]
      rw [e1] at hk1
      exact hk1
  · have e : k = n := by omega
    subst e
    exact rs_w1_ok k x _ _ _ (decide_eq_false (by omega)) fun S1 hk1 => .inr ⟨rfl, hk1⟩
noncomputable def rs_loop (n : Nat) (x : Nat → Int) (hn : n ≤ 1000000) : CodeC P :=
  loopC mo S1 (by rfl) 1 31 rs_b [900, 3, 1, 0] (rs_g n x) (fun k => k ≤ n) (fun k => n - k) (.exit 0) (rs_g n x n) (by simp) (fun _ => rfl) rfl (fun _ => by kernel_rfl) (by kernel_rfl) [900] (fun _ => rfl) rfl
    (rs_step hn) 0 (Nat.zero_le _)
noncomputable def rs_E (n : Nat) (x : Nat → Int) (hn : n ≤ 1000000) : Env P := ⟨⟨[], []⟩, [rs_loop n x hn], 10, []⟩
theorem rs_row (n : Nat) (x : Nat → Int) (hn : n ≤ 1000000) : GivesD P 34 [.row ⟨56, 4, n, fun j => W (x j), false⟩] (.tuple #[W (sW x n), .bool (sO x n)]) :=
  givesD_of_run (E := rs_E n x hn) (lv := 1) (ds := (.n 0 :: [])) (v := .tuple #[W (sW x n), .bool (sO x n)]) (ps := [Code.loop rs_b = innerOf P 34 0, (.int .i64 0 : Value) = .int .i64 ((0 : Nat) : Int), (.bool false : Value) = .bool (sO x 0), (.ptr 3 0 : SV) = .ptr 3 0, (.bool false : Value) = .bool false, (.ptr 1 0 : SV) = .ptr 1 0, (.row 0 : SV) = .row 0, (W 0 : Value) = W 0, (W 0 : Value) = W (sW x 0), n = n, ∀ j, j < n → W (x j) = W (x j)]) mo (by kernel_rfl) (ps_cons (by kernel_rfl) (ps_cons rfl (ps_cons rfl (ps_cons rfl (ps_cons rfl (ps_cons rfl (ps_cons rfl (ps_cons rfl (ps_cons rfl (ps_cons rfl (ps_cons (fun _ _ => rfl) ps_nil))))))))))) rfl
theorem rs_nil : GivesD P 34 [.v (.slice none 0 0)] (.tuple #[W 0, .bool false]) :=
  givesD_of_run (E := S1) (lv := 1) (ds := []) (v := .tuple #[W 0, .bool false]) (ps := []) mo (by kernel_rfl) ps_nil rfl
theorem rs_gives (ds : List DV) (h : sumP ds) : GivesD P 34 ds (sumV ds) := by
  unfold sumP at h
  split at h
  · rename_i q
    obtain ⟨ty, sz, n, el, own⟩ := q
    obtain ⟨rfl, hn, he⟩ := h
    exact row_el (rs_row n (fun j => tI (el j)) hn) fun j hj => (isW_in (he j hj)).1.symm
  · subst h
    exact rs_nil
  · exact h.elim
noncomputable def rs_c : CtrD P := ⟨34, sumP, sumV, rs_gives⟩
end Go.Tw
