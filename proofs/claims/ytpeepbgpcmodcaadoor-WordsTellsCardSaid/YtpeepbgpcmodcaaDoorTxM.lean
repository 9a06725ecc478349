/-
  Words: Same, Join, Stands. Printed by wdM.py.
-/
import Derived.Test.YtpeepbgpcmodcaaDoorTxL
set_option maxRecDepth 100000
namespace Go.Tx
open Go Go.RowKit Go.Sx Go.Proofs
noncomputable def sm_b : Code := bodyOf (innerOf P 13 0)
def sm_st (L : List (Int × ByteArray)) (i : Int) : St := ⟨[(5, .v (.int .i64 i)), (4, .v (.bool false)), (1, .row 901), (0, .row 900)], [], [], [900, 901, 0, 1], [(900, some ⟨38, 2, L.length, we L, false⟩), (901, some ⟨38, 2, L.length, we L, false⟩)]⟩
theorem sm_w0 (L : List (Int × ByteArray)) (i : Int) (k_ : Nat) : stepF P Z0 1 26 sm_b (sm_st L i) (.b true :: (.n i.toNat :: (.n i.toNat :: (.b false :: [])))) 1000 (fun _ => some (sm_st L (IntKind.i64.wrap (i + 1)))) k_ =
  some (.normal, k_, [(decide (i < ((L.length : Nat) : Int))) = true, i = ↑i.toNat, i.toNat < L.length, i.toNat < L.length, i = ↑i.toNat, i.toNat < L.length, i.toNat < L.length, (!(((wAt L i.toNat).1 == (wAt L i.toNat).1) && (((wAt L i.toNat).2) == ((wAt L i.toNat).2)))) = false, (.int .i64 (IntKind.i64.wrap (i + 1)) : Value) = .int .i64 (IntKind.i64.wrap (i + 1)), (.bool false : Value) = .bool false, (.row 901 : SV) = .row 901, (.row 900 : SV) = .row 900, L.length = L.length, ∀ j, j < L.length → we L j = we L j, L.length = L.length, ∀ j, j < L.length → we L j = we L j]) := by kernel_rfl
theorem sm_w0_ok (L : List (Int × ByteArray)) (i : Int) (q0 : (decide (i < ((L.length : Nat) : Int))) = true) (q1 : (((wAt L i.toNat).1 == (wAt L i.toNat).1) && (((wAt L i.toNat).2) == ((wAt L i.toNat).2))) = true) (x0 : i = ↑i.toNat) (x1 : i.toNat < L.length) (x2 : i.toNat < L.length) (x3 : i = ↑i.toNat) (x4 : i.toNat < L.length) (x5 : i.toNat < L.length) {good : Out → St → Prop} (hg : ∀ S1, Keeps S1 (sm_st L (IntKind.i64.wrap (i + 1))) → good .normal S1) : StepTo P Z0 1 26 sm_b (sm_st L i) good :=
  step_run (sm_w0 L i) (ps_cons q0 (ps_cons x0 (ps_cons x1 (ps_cons x2 (ps_cons x3 (ps_cons x4 (ps_cons x5 (ps_cons (neg_f q1) (ps_cons rfl (ps_cons rfl (ps_cons rfl (ps_cons rfl (ps_cons rfl (ps_cons (fun _ _ => rfl) (ps_cons rfl (ps_cons (fun _ _ => rfl) ps_nil)))))))))))))))) rfl hg
theorem sm_w1 (L : List (Int × ByteArray)) (i : Int) (k_ : Nat) : stepF P Z0 1 26 sm_b (sm_st L i) (.b false :: []) 1000 (fun _ => some (sm_st L i)) k_ =
  some ((.exit 0), k_, [(decide (i < ((L.length : Nat) : Int))) = false, (.int .i64 i : Value) = .int .i64 i, (.bool false : Value) = .bool false, (.row 901 : SV) = .row 901, (.row 900 : SV) = .row 900, L.length = L.length, ∀ j, j < L.length → we L j = we L j, L.length = L.length, ∀ j, j < L.length → we L j = we L j]) := by kernel_rfl
theorem sm_w1_ok (L : List (Int × ByteArray)) (i : Int) (q0 : (decide (i < ((L.length : Nat) : Int))) = false)  {good : Out → St → Prop} (hg : ∀ S1, Keeps S1 (sm_st L i) → good (.exit 0) S1) : StepTo P Z0 1 26 sm_b (sm_st L i) good :=
  step_run (sm_w1 L i) (ps_cons q0 (ps_cons rfl (ps_cons rfl (ps_cons rfl (ps_cons rfl (ps_cons rfl (ps_cons (fun _ _ => rfl) (ps_cons rfl (ps_cons (fun _ _ => rfl) ps_nil))))))))) rfl hg
theorem ba_beq (s t : ByteArray) : (s == t) = true ↔ s = t := by
  cases s with | mk a =>
  cases t with | mk b =>
  show (a == b) = true ↔ _
  rw [beq_iff_eq, ByteArray.mk.injEq]
theorem ba_self (s : ByteArray) : (s == s) = true := (ba_beq s s).2 rfl
theorem beq_word (L : List (Int × ByteArray)) (j : Nat) : (((wAt L j).1 == (wAt L j).1) && (((wAt L j).2) == ((wAt L j).2))) = true := by
  rw [ba_self, beq_self_eq_true]
  rfl
theorem sm_step (L : List (Int × ByteArray)) (hL : L.length ≤ 1000000) (k : Nat) (hk : k ≤ L.length) : StepTo P Z0 1 26 sm_b (sm_st L ((k : Nat) : Int)) fun o S1 => (o = .normal ∧ ∃ g' : Nat, g' ≤ L.length ∧ L.length - g' < L.length - k ∧ Keeps S1 (sm_st L ((g' : Nat) : Int))) ∨ (o = .exit 0 ∧ Keeps S1 (sm_st L ((L.length : Nat) : Int))) := by
  by_cases h : k < L.length
  · have e1 : IntKind.i64.wrap ((k : Int) + 1) = ((k + 1 : Nat) : Int) := by rw [wr (by omega) (by omega)]; rfl
    refine sm_w0_ok L ((k : Nat) : Int) (decide_eq_true (by omega)) (beq_word L _) rfl h h rfl h h fun S1 hk1 => .inl ⟨rfl, k + 1, h, by omega, ?_⟩
    rw [e1] at hk1
    exact hk1
  · have e : k = L.length := by omega
    subst e
    exact sm_w1_ok L ((L.length : Nat) : Int) (decide_eq_false (by omega)) fun S1 hk1 => .inr ⟨rfl, hk1⟩
noncomputable def sm_loop (L : List (Int × ByteArray)) (hL : L.length ≤ 1000000) : CodeC P :=
  loopC mo Z0 (by rfl) 1 26 sm_b [900, 901, 0, 1] (fun k : Nat => sm_st L ((k : Nat) : Int)) (fun k => k ≤ L.length) (fun k => L.length - k) (.exit 0) (sm_st L ((L.length : Nat) : Int)) (by simp) (fun _ => rfl) rfl (fun _ => by kernel_rfl) (by kernel_rfl) [900, 901] (fun _ => rfl) rfl
    (sm_step L hL) 0 (Nat.zero_le _)
noncomputable def sm_E (L : List (Int × ByteArray)) (hL : L.length ≤ 1000000) : Env P := ⟨⟨[], [], []⟩, [sm_loop L hL], 10, []⟩
theorem sm_row (L : List (Int × ByteArray)) (hL : L.length ≤ 1000000) : GivesD P 13 [.row ⟨38, 2, L.length, we L, false⟩, .row ⟨38, 2, L.length, we L, false⟩] (.bool true) :=
  givesD_of_run (E := sm_E L hL) (lv := 1) (ds := (.b false :: (.n 0 :: []))) (v := .bool true) (ps := [(((L.length : Nat) : Int) != ((L.length : Nat) : Int)) = false, Code.loop sm_b = innerOf P 13 0, (.int .i64 0 : Value) = .int .i64 ((0 : Nat) : Int), (.bool false : Value) = .bool false, (.row 1 : SV) = .row 1, (.row 0 : SV) = .row 0, L.length = L.length, ∀ j, j < L.length → we L j = we L j, L.length = L.length, ∀ j, j < L.length → we L j = we L j]) mo (by kernel_rfl) (ps_cons (by simp) (ps_cons (by kernel_rfl) (ps_cons rfl (ps_cons rfl (ps_cons rfl (ps_cons rfl (ps_cons rfl (ps_cons (fun _ _ => rfl) (ps_cons rfl (ps_cons (fun _ _ => rfl) ps_nil)))))))))) rfl
theorem sm_nil : GivesD P 13 [.v (.slice none 0 0), .v (.slice none 0 0)] (.bool true) :=
  givesD_of_run (E := Z0) (lv := 2) (ds := []) (v := .bool true) (ps := []) mo (by kernel_rfl) ps_nil rfl
def smP : List DV → Prop
  | [.row p, .row q] => ∃ L : List (Int × ByteArray), L.length ≤ 1000000 ∧ p = ⟨38, 2, L.length, we L, false⟩ ∧ q = ⟨38, 2, L.length, we L, false⟩
  | [.v x, .v y] => x = .slice none 0 0 ∧ y = .slice none 0 0
  | _ => False
theorem sm_gives (ds : List DV) (h : smP ds) : GivesD P 13 ds (.bool true) := by
  unfold smP at h
  split at h
  · obtain ⟨L, hL, rfl, rfl⟩ := h
    exact sm_row L hL
  · obtain ⟨rfl, rfl⟩ := h
    exact sm_nil
  · exact h.elim
noncomputable def sm_c : CtrD P := ⟨13, smP, fun _ => .bool true, sm_gives⟩
def jF (x : Nat → ByteArray) : Nat → ByteArray
  | 0 => ByteArray.empty
  | k + 1 => (bif Nat.blt 0 k then jF x k ++ ⟨#[32]⟩ else jF x k) ++ x k
noncomputable def rj_b : Code := bodyOf (innerOf P 21 0)
def rj_st (n : Nat) (x : Nat → ByteArray) (i : Int) (o : ByteArray) : St := ⟨[(4, .v (.int .i64 i)), (3, .v (.string o)), (2, .v (.string (⟨#[]⟩))), (0, .row 900)], [], [], [900, 0], [(900, some ⟨9, 1, n, fun j => .string (x j), false⟩)]⟩
theorem rj_w0 (n : Nat) (x : Nat → ByteArray) (i : Int) (o : ByteArray) (k_ : Nat) : stepF P Z0 1 22 rj_b (rj_st n x i o) (.b true :: (.b true :: (.n i.toNat :: []))) 1000 (fun _ => some (rj_st n x (IntKind.i64.wrap (i + 1)) ((o ++ (⟨#[32]⟩ : ByteArray)) ++ (x i.toNat)))) k_ =
  some (.normal, k_, [(decide (i < ((n : Nat) : Int))) = true, (decide (i > 0)) = true, ((o.size + (⟨#[32]⟩ : ByteArray).size : Nat) : Int) ≤ IntKind.i64.max, i = ↑i.toNat, i.toNat < n, i.toNat < n, (((o ++ (⟨#[32]⟩ : ByteArray)).size + (x i.toNat).size : Nat) : Int) ≤ IntKind.i64.max, (.int .i64 (IntKind.i64.wrap (i + 1)) : Value) = .int .i64 (IntKind.i64.wrap (i + 1)), (.string ((o ++ (⟨#[32]⟩ : ByteArray)) ++ (x i.toNat)) : Value) = .string ((o ++ (⟨#[32]⟩ : ByteArray)) ++ (x i.toNat)), (.string (⟨#[]⟩) : Value) = .string (⟨#[]⟩), (.row 900 : SV) = .row 900, n = n, ∀ j, j < n → (.string (x j) : Value) = .string (x j)]) := by kernel_rfl
theorem rj_w0_ok (n : Nat) (x : Nat → ByteArray) (i : Int) (o : ByteArray) (q0 : (decide (i < ((n : Nat) : Int))) = true) (q1 : (decide (i > 0)) = true) (x0 : ((o.size + (⟨#[32]⟩ : ByteArray).size : Nat) : Int) ≤ IntKind.i64.max) (x1 : i = ↑i.toNat) (x2 : i.toNat < n) (x3 : i.toNat < n) (x4 : (((o ++ (⟨#[32]⟩ : ByteArray)).size + (x i.toNat).size : Nat) : Int) ≤ IntKind.i64.max) {good : Out → St → Prop} (hg : ∀ S1, Keeps S1 (rj_st n x (IntKind.i64.wrap (i + 1)) ((o ++ (⟨#[32]⟩ : ByteArray)) ++ (x i.toNat))) → good .normal S1) : StepTo P Z0 1 22 rj_b (rj_st n x i o) good :=
  step_run (rj_w0 n x i o) (ps_cons q0 (ps_cons q1 (ps_cons x0 (ps_cons x1 (ps_cons x2 (ps_cons x3 (ps_cons x4 (ps_cons rfl (ps_cons rfl (ps_cons rfl (ps_cons rfl (ps_cons rfl (ps_cons (fun _ _ => rfl) ps_nil))))))))))))) rfl hg
theorem rj_w1 (n : Nat) (x : Nat → ByteArray) (i : Int) (o : ByteArray) (k_ : Nat) : stepF P Z0 1 22 rj_b (rj_st n x i o) (.b false :: []) 1000 (fun _ => some (rj_st n x i o)) k_ =
  some ((.exit 0), k_, [(decide (i < ((n : Nat) : Int))) = false, (.int .i64 i : Value) = .int .i64 i, (.string o : Value) = .string o, (.string (⟨#[]⟩) : Value) = .string (⟨#[]⟩), (.row 900 : SV) = .row 900, n = n, ∀ j, j < n → (.string (x j) : Value) = .string (x j)]) := by kernel_rfl
theorem rj_w1_ok (n : Nat) (x : Nat → ByteArray) (i : Int) (o : ByteArray) (q0 : (decide (i < ((n : Nat) : Int))) = false)  {good : Out → St → Prop} (hg : ∀ S1, Keeps S1 (rj_st n x i o) → good (.exit 0) S1) : StepTo P Z0 1 22 rj_b (rj_st n x i o) good :=
  step_run (rj_w1 n x i o) (ps_cons q0 (ps_cons rfl (ps_cons rfl (ps_cons rfl (ps_cons rfl (ps_cons rfl (ps_cons (fun _ _ => rfl) ps_nil))))))) rfl hg
theorem rj_w2 (n : Nat) (x : Nat → ByteArray) (i : Int) (o : ByteArray) (k_ : Nat) : stepF P Z0 1 22 rj_b (rj_st n x i o) (.b true :: (.b false :: (.n i.toNat :: []))) 1000 (fun _ => some (rj_st n x (IntKind.i64.wrap (i + 1)) (o ++ (x i.toNat)))) k_ =
  some (.normal, k_, [(decide (i < ((n : Nat) : Int))) = true, (decide (i > 0)) = false, i = ↑i.toNat, i.toNat < n, i.toNat < n, ((o.size + (x i.toNat).size : Nat) : Int) ≤ IntKind.i64.max, (.int .i64 (IntKind.i64.wrap (i + 1)) : Value) = .int .i64 (IntKind.i64.wrap (i + 1)), (.string (o ++ (x i.toNat)) : Value) = .string (o ++ (x i.toNat)), (.string (⟨#[]⟩) : Value) = .string (⟨#[]⟩), (.row 900 : SV) = .row 900, n = n, ∀ j, j < n → (.string (x j) : Value) = .string (x j)]) := by kernel_rfl
theorem rj_w2_ok (n : Nat) (x : Nat → ByteArray) (i : Int) (o : ByteArray) (q0 : (decide (i < ((n : Nat) : Int))) = true) (q1 : (decide (i > 0)) = false) (x0 : i = ↑i.toNat) (x1 : i.toNat < n) (x2 : i.toNat < n) (x3 : ((o.size + (x i.toNat).size : Nat) : Int) ≤ IntKind.i64.max) {good : Out → St → Prop} (hg : ∀ S1, Keeps S1 (rj_st n x (IntKind.i64.wrap (i + 1)) (o ++ (x i.toNat))) → good .normal S1) : StepTo P Z0 1 22 rj_b (rj_st n x i o) good :=
  step_run (rj_w2 n x i o) (ps_cons q0 (ps_cons q1 (ps_cons x0 (ps_cons x1 (ps_cons x2 (ps_cons x3 (ps_cons rfl (ps_cons rfl (ps_cons rfl (ps_cons rfl (ps_cons rfl (ps_cons (fun _ _ => rfl) ps_nil)))))))))))) rfl hg
theorem jF_size {x : Nat → ByteArray} {m : Nat} : ∀ {k : Nat}, (∀ j, j < k → (x j).size ≤ m) → (jF x k).size ≤ k * (m + 1)
  | 0, _ => Nat.zero_le _
  | k + 1, h => by
    have ih := jF_size (k := k) fun j hj => h j (by omega)
    have h1 := h k (by omega)
    have e : (k + 1) * (m + 1) = k * (m + 1) + (m + 1) := by rw [Nat.add_mul, Nat.one_mul]
    rw [e]
    unfold jF
    rw [ByteArray.size_append]
    cases Nat.blt 0 k with
    | true =>
      simp only [cond_true, ByteArray.size_append]
      have : (⟨#[32]⟩ : ByteArray).size = 1 := rfl
      omega
    | false =>
      simp only [cond_false]
      omega
theorem rj_step {n : Nat} {x : Nat → ByteArray} (hn : n ≤ 1000) (hx : ∀ j, j < n → (x j).size ≤ 1000) (k : Nat) (hk : k ≤ n) : StepTo P Z0 1 22 rj_b (rj_st n x ((k : Nat) : Int) (jF x k)) fun o S1 => (o = .normal ∧ ∃ g' : Nat, g' ≤ n ∧ n - g' < n - k ∧ Keeps S1 (rj_st n x ((g' : Nat) : Int) (jF x g'))) ∨ (o = .exit 0 ∧ Keeps S1 (rj_st n x ((n : Nat) : Int) (jF x n))) := by
  by_cases h : k < n
  · have e1 : IntKind.i64.wrap ((k : Int) + 1) = ((k + 1 : Nat) : Int) := by rw [wr (by omega) (by omega)]; rfl
    have hz := jF_size (x := x) (m := 1000) (k := k) fun j hj => hx j (by omega)
    have hz1 := hx k h
    have h32 : (⟨#[32]⟩ : ByteArray).size = 1 := rfl
    by_cases h0 : 0 < k
    · refine rj_w0_ok n x ((k : Nat) : Int) (jF x k) (decide_eq_true (by omega)) (decide_eq_true (by omega)) (imx (by omega)) rfl h h (imx ?_) fun S1 hk1 => .inl ⟨rfl, k + 1, h, by omega, ?_⟩
      · rw [ByteArray.size_append]
        show _ + (x k).size ≤ _
        omega
      · rw [e1] at hk1
        have e2 : jF x (k + 1) = (jF x k ++ (⟨#[32]⟩ : ByteArray)) ++ x k := by
          show (bif Nat.blt 0 k then _ else _) ++ x k = _
          rw [show Nat.blt 0 k = true by rw [Nat.blt_eq]; exact h0]
          rfl
        rw [e2]
        exact hk1
    · have e0 : k = 0 := by omega
      subst e0
      refine rj_w2_ok n x ((0 : Nat) : Int) (jF x 0) (decide_eq_true (by omega)) (decide_eq_false (by omega)) rfl h h (imx ?_) fun S1 hk1 => .inl ⟨rfl, 1, h, by omega, ?_⟩
      · show _ + (x 0).size ≤ _
        omega
      · rw [e1] at hk1
        exact hk1
  · have e : k = n := by omega
    subst e
    exact rj_w1_ok k x _ _ (decide_eq_false (by omega)) fun S1 hk1 => .inr ⟨rfl, hk1⟩
noncomputable def rj_loop (n : Nat) (x : Nat → ByteArray) (hn : n ≤ 1000) (hx : ∀ j, j < n → (x j).size ≤ 1000) : CodeC P :=
  loopC mo Z0 (by rfl) 1 22 rj_b [900, 0] (fun k : Nat => rj_st n x ((k : Nat) : Int) (jF x k)) (fun k => k ≤ n) (fun k => n - k) (.exit 0) (rj_st n x ((n : Nat) : Int) (jF x n)) (by simp) (fun _ => rfl) rfl (fun _ => by kernel_rfl) (by kernel_rfl) [900] (fun _ => rfl) rfl
    (rj_step hn hx) 0 (Nat.zero_le _)
noncomputable def rj_E (n : Nat) (x : Nat → ByteArray) (hn : n ≤ 1000) (hx : ∀ j, j < n → (x j).size ≤ 1000) : Env P := ⟨⟨[], [], []⟩, [rj_loop n x hn hx], 10, []⟩
theorem rj_row (n : Nat) (x : Nat → ByteArray) (hn : n ≤ 1000) (hx : ∀ j, j < n → (x j).size ≤ 1000) : GivesD P 21 [.row ⟨9, 1, n, fun j => .string (x j), false⟩] (.string (jF x n)) :=
  givesD_of_run (E := rj_E n x hn hx) (lv := 1) (ds := (.n 0 :: [])) (v := .string (jF x n)) (ps := [Code.loop rj_b = innerOf P 21 0, (.int .i64 0 : Value) = .int .i64 ((0 : Nat) : Int), (.string (⟨#[]⟩) : Value) = .string (jF x 0), (.string (⟨#[]⟩) : Value) = .string (⟨#[]⟩), (.row 0 : SV) = .row 0, n = n, ∀ j, j < n → (.string (x j) : Value) = .string (x j)]) mo (by kernel_rfl) (ps_cons (by kernel_rfl) (ps_cons rfl (ps_cons rfl (ps_cons rfl (ps_cons rfl (ps_cons rfl (ps_cons (fun _ _ => rfl) ps_nil))))))) rfl
theorem rj_nil : GivesD P 21 [.v (.slice none 0 0)] (.string ByteArray.empty) :=
  givesD_of_run (E := Z0) (lv := 2) (ds := []) (v := .string (⟨#[]⟩)) (ps := []) mo (by kernel_rfl) ps_nil rfl
def tx : Value → ByteArray
  | .string s => s
  | _ => ByteArray.empty
def joP : List DV → Prop
  | [.row q, .v y] => q.sz = 1 ∧ q.ty = 9 ∧ q.n ≤ 1000 ∧ (∀ j, j < q.n → q.el j = .string (tx (q.el j)) ∧ (tx (q.el j)).size ≤ 1000) ∧ y = .string ⟨#[32]⟩
  | [.v x, .v y] => x = .slice none 0 0 ∧ y = .string ⟨#[32]⟩
  | _ => False
def joV : List DV → Value
  | [.row q, _] => .string (jF (fun j => tx (q.el j)) q.n)
  | _ => .string ByteArray.empty
theorem join_snoc (sep y : List UInt8) : ∀ l : List (List UInt8), Lib.join (l ++ [y]) sep = if l = [] then y else Lib.join l sep ++ sep ++ y
  | [] => by rw [if_pos rfl]; exact Lib.join_one y sep
  | a :: l => by
    rw [if_neg (by simp), List.cons_append, Lib.join_cons, Lib.join_cons]
    simp [Lib.joinTail, List.append_assoc]
theorem join_jF (x : Nat → ByteArray) : ∀ n, Lib.join (((List.range n).map x).map (·.data.toList)) [32] = (jF x n).data.toList
  | 0 => rfl
  | n + 1 => by
    have ih := join_jF x n
    rw [List.range_succ, List.map_append, List.map_append]
    show Lib.join (_ ++ [(x n).data.toList]) _ = _
    rw [join_snoc, ih]
    show _ = ((bif Nat.blt 0 n then jF x n ++ ⟨#[32]⟩ else jF x n) ++ x n).data.toList
    cases n with
    | zero => simp [jF]; rfl
    | succ k =>
      rw [if_neg (by simp), show Nat.blt 0 (k + 1) = true by rw [Nat.blt_eq]; omega, cond_true]
      simp
theorem jo_gives (ds : List DV) (h : joP ds) : GivesD P 30 ds (joV ds) := by
  unfold joP at h
  split at h
  · rename_i q y
    obtain ⟨h1, _, h2, h3, rfl⟩ := h
    intro F n o a W K Q args g1 g2 g3 hz hs hK
    match args, hs with
    | [u, v], ⟨⟨p, hp, hw⟩, hv, _⟩ =>
      have hv : v = .string ⟨#[32]⟩ := hv
      subst hv hp
      obtain ⟨fn, hfn, hfb, hfname⟩ := funOk_spec (P := P) (g := 30) (by kernel_rfl)
      rw [run_callFunc_body hfn hfb hfname, Oper.uponIn_enter]
      refine ⟨fun hd => by rw [g2] at hd; exact absurd hd (by simp), callsIn_loose ⟨g1, g2, g3⟩ ?_⟩
      obtain ⟨cells, ty, fr, hc, _, hel⟩ := hw.mem
      have hpn : p.n = q.n := hw.n
      have hl : ((List.range q.n).map fun j => tx (q.el j)).length = p.n := by simp [hpn]
      have key := Tryd.strings_Join p.k p.off p.cap ((List.range q.n).map fun j => tx (q.el j)) ⟨#[32]⟩ W (fun j x hx => by
          rw [List.getElem?_map] at hx
          have hj : j < q.n := by
            rcases Nat.lt_or_ge j q.n with hj | hj
            · exact hj
            · rw [List.getElem?_eq_none (by simpa using hj)] at hx; cases hx
          rw [List.getElem?_range hj] at hx
          have hx : tx (q.el j) = x := by simpa using hx
          have h5 := (hel j hj).2 0 (by show 0 < q.sz; omega)
          rw [(h3 j hj).1, hx] at h5
          have e0 : j * q.sz + 0 = j := by rw [h1]; omega
          have h5 : cells[p.off + (j * q.sz + 0)]? = some (Value.string x) := h5
          rw [e0] at h5
          simp [World.cell?, hc, h5]) (Array.getElem?_eq_some_iff.1 hc).1 (by rw [hl, hpn]; omega) (by rw [hl, hpn]; exact hw.cap) (by
          rw [join_jF]
          have := jF_size (x := fun j => tx (q.el j)) (m := 1000) (k := q.n) fun j hj => (h3 j hj).2
          show (jF _ q.n).size ≤ _
          omega)
      rw [join_jF, hl] at key
      refine key.mono ?_
      rintro e w' ⟨rfl, hB⟩
      exact hK w' hB
  · obtain ⟨rfl, rfl⟩ := h
    intro F n o a W K Q args g1 g2 g3 hz hs hK
    match args, hs with
    | [u, v], ⟨hu, hv, _⟩ =>
      have hu : u = .slice none 0 0 := hu
      have hv : v = .string ⟨#[32]⟩ := hv
      subst hu hv
      obtain ⟨fn, hfn, hfb, hfname⟩ := funOk_spec (P := P) (g := 30) (by kernel_rfl)
      rw [run_callFunc_body hfn hfb hfname, Oper.uponIn_enter]
      refine ⟨fun hd => by rw [g2] at hd; exact absurd hd (by simp), callsIn_loose ⟨g1, g2, g3⟩ ?_⟩
      refine (Tryd.strings_Join_none none 0 ⟨#[32]⟩ W).mono ?_
      rintro e w' ⟨rfl, rfl⟩
      exact hK _ ⟨rfl, rfl, rfl, Nat.le_refl _, fun _ _ => rfl⟩
  · exact h.elim
noncomputable def jo_c : CtrD P := ⟨30, joP, joV, jo_gives⟩
noncomputable def ZJ : Env P := ⟨⟨[], [jo_c], []⟩, [], 10, []⟩
theorem hx2 {n : Nat} {x : Nat → ByteArray} (hx : ∀ j, j < n → (x j).size ≤ 1000) : ∀ j, j < n → (Value.string (x j) = .string (tx (.string (x j))) ∧ (tx (.string (x j))).size ≤ 1000) := fun j hj => ⟨rfl, hx j hj⟩
theorem wj_row (n : Nat) (x : Nat → ByteArray) (hn : n ≤ 1000) (hx : ∀ j, j < n → (x j).size ≤ 1000) : GivesD P 20 [.row ⟨9, 1, n, fun j => .string (x j), false⟩] (.string (jF x n)) :=
  givesD_of_run (E := ZJ) (lv := 2) (ds := []) (v := .string (jF x n)) (ps := [joP [.row ⟨9, 1, n, fun j => .string (x j), false⟩, .v (.string ⟨#[32]⟩)]]) mo (by kernel_rfl) (ps_cons ⟨rfl, rfl, hn, hx2 hx, rfl⟩ ps_nil) rfl
theorem wj_nil  : GivesD P 20 [.v (.slice none 0 0)] (.string (ByteArray.empty)) :=
  givesD_of_run (E := ZJ) (lv := 2) (ds := []) (v := .string (ByteArray.empty)) (ps := [joP [.v (.slice none 0 0), .v (.string ⟨#[32]⟩)]]) mo (by kernel_rfl) (ps_cons ⟨rfl, rfl⟩ ps_nil) rfl
def wjP : List DV → Prop
  | [.row q] => q.sz = 1 ∧ q.ty = 9 ∧ q.n ≤ 1000 ∧ (∀ j, j < q.n → q.el j = .string (tx (q.el j)) ∧ (tx (q.el j)).size ≤ 1000)
  | [.v x] => x = .slice none 0 0
  | _ => False
def wjV : List DV → Value
  | [.row q] => .string (jF (fun j => tx (q.el j)) q.n)
  | _ => .string ByteArray.empty
theorem row_el {f : FuncId} {ty ty2 sz n : Nat} {el el' : Nat → Value} {own : Bool} {v : Value} (h : GivesD P f [.row ⟨ty2, sz, n, el', false⟩] v) (he : ∀ j, j < n → el' j = el j) : GivesD P f [.row ⟨ty, sz, n, el, own⟩] v :=
  fun F m o a W K Q args h1 h2 h3 h4 h5 h6 => h F m o a W K Q args h1 h2 h3 h4 (by
    match args, h5 with
    | [_], ⟨⟨p, hp, w⟩, g3⟩ =>
      refine ⟨⟨p, hp, w.n, w.cap, fun e => (by cases e), ?_⟩, g3⟩
      obtain ⟨cells, ty', fr, hc, _, hel⟩ := w.mem
      refine ⟨cells, ty', fr, hc, fun e => (by cases e), fun j hj => ?_⟩
      show (el' j).cells.size = sz ∧ ∀ i, i < sz → cells[p.off + (j * sz + i)]? = (el' j).cells[i]?
      rw [he j hj]
      exact hel j hj) h6
theorem wj_gives (ds : List DV) (h : wjP ds) : GivesD P 20 ds (wjV ds) := by
  unfold wjP at h
  split at h
  · rename_i q
    obtain ⟨ty, sz, n, el, own⟩ := q
    obtain ⟨rfl, rfl, hn, he⟩ := h
    exact row_el (wj_row n (fun j => tx (el j)) hn fun j hj => (he j hj).2) fun j hj => (he j hj).1.symm
  · subst h
    exact wj_nil
  · exact h.elim
theorem rj_gives (ds : List DV) (h : wjP ds) : GivesD P 21 ds (wjV ds) := by
  unfold wjP at h
  split at h
  · rename_i q
    obtain ⟨ty, sz, n, el, own⟩ := q
    obtain ⟨rfl, rfl, hn, he⟩ := h
    exact row_el (rj_row n (fun j => tx (el j)) hn fun j hj => (he j hj).2) fun j hj => (he j hj).1.symm
  · subst h
    exact rj_nil
  · exact h.elim
noncomputable def wj_c : CtrD P := ⟨20, wjP, wjV, wj_gives⟩
noncomputable def rj_c : CtrD P := ⟨21, wjP, wjV, rj_gives⟩
end Go.Tx
