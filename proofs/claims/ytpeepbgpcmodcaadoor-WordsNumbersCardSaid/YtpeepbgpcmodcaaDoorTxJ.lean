/-
  Words: rounds of the reference's loop over a text. Printed by wdJ.py.
-/
import Derived.Test.YtpeepbgpcmodcaaDoorTxI
set_option maxRecDepth 100000
namespace Go.Tx
open Go Go.RowKit Go.Sx Go.Proofs
theorem we_put (M : List (Int × ByteArray)) (w : Int × ByteArray) (x : ByteArray) : ∀ j, j < M.length + 1 → (bif Nat.beq j M.length then (.agg #[.int .i64 (wAt (M ++ [w]) M.length).1, .string x] : Value) else we (M ++ [w]) j) = we (M ++ [(w.1, x)]) j := by
  intro j hj
  unfold we wAt
  cases hb : Nat.beq j M.length with
  | true =>
    have := Nat.eq_of_beq_eq_true hb
    subst this
    simp
  | false =>
    have : j < M.length := by
      have := Nat.ne_of_beq_eq_false hb
      omega
    simp [List.getD, List.getElem?_append_left this]
theorem we_last (M : List (Int × ByteArray)) (w : Int × ByteArray) : wAt (M ++ [w]) M.length = w := by
  unfold wAt
  simp
noncomputable def rp_b : Code := bodyOf (innerOf P 10 0)
noncomputable def rpN_st (t : ByteArray) (a : Int) : St := ⟨[(0, .v (.string t)), (6, .v (.int .i64 a)), (7, .v (.bool false)), (5, .v (.slice none 0 0)), (2, .v (.slice none 0 0)), (3, .v (.int .i64 0)), (4, .v (.int .i64 0))], [], [], [900], []⟩
noncomputable def rpR_st (M : List (Int × ByteArray)) (w : Int × ByteArray) (t : ByteArray) (a : Int) (i : Bool) : St := ⟨[(0, .v (.string t)), (6, .v (.int .i64 a)), (7, .v (.bool i)), (5, .row 900), (2, .v (.slice none 0 0)), (3, .v (.int .i64 0)), (4, .v (.int .i64 0))], [], [], [900], [(900, some ⟨38, 2, M.length + 1, we (M ++ [w]), true⟩)]⟩
def rpB_st (a : Int) : St := ⟨[(2, .v (.slice none 0 0)), (3, .v (.int .i64 a)), (4, .v (.int .i64 10))], [], [], [900], []⟩
noncomputable def rpP_s (M : List (Int × ByteArray)) (w : Int × ByteArray) (t : ByteArray) (a : Int) (c k : Int) (bad : Bool) : St := ⟨[(0, .v (.string t)), (6, .v (.int .i64 a)), (7, .v (.bool false)), (5, .row 901), (2, .v (.slice none 0 0)), (3, .v (.int .i64 0)), (4, .v (.int .i64 0)), (8, .v (.int .i32 c)), (9, .v (.int .i64 k)), (10, .v (.bool bad)), (31, .v (.bool true))], [], [], [901, 900], [(901, some ⟨38, 2, M.length + 1, we (M ++ [w]), true⟩)]⟩
noncomputable def rpP_f (M : List (Int × ByteArray)) (w : Int × ByteArray) (t : ByteArray) (a : Int) (c k : Int) (bad : Bool) : St := ⟨[(0, .v (.string t)), (6, .v (.int .i64 a)), (7, .v (.bool false)), (5, .row 901), (2, .v (.slice none 0 0)), (3, .v (.int .i64 0)), (4, .v (.int .i64 0)), (8, .v (.int .i32 c)), (9, .v (.int .i64 k)), (10, .v (.bool bad))], [], [], [901, 900], [(901, some ⟨38, 2, (M ++ [w]).length + 1, we ((M ++ [w]) ++ [(a, ByteArray.empty)]), true⟩)]⟩
noncomputable def ZZ : Env P := ⟨⟨[nx_c, rs_c, rb_c], [], []⟩, [], 10, []⟩
theorem rpP_run (M : List (Int × ByteArray)) (w : Int × ByteArray) (t : ByteArray) (a : Int) (c k : Int) (bad : Bool) (k_ : Nat) : stepF P ZZ 1 65 (condOf P 10 2) (rpP_s M w t a c k bad) [] 1000 (fun _ => some (rpP_f M w t a c k bad)) k_ =
  some (.normal, k_, [M.length + 1 < 1000000, (.string t : Value) = .string t, (.int .i64 a : Value) = .int .i64 a, (.bool false : Value) = .bool false, (.row 1004 : SV) = .row 1004, (.slice none 0 0 : Value) = .slice none 0 0, (.int .i64 0 : Value) = .int .i64 0, (.int .i64 0 : Value) = .int .i64 0, (.int .i32 c : Value) = .int .i32 c, (.int .i64 k : Value) = .int .i64 k, (.bool bad : Value) = .bool bad, M.length + 1 + 1 = (M ++ [w]).length + 1, ∀ j, j < (M ++ [w]).length + 1 → (bif Nat.beq j (M.length + 1) then (.agg #[.int .i64 a, .string (⟨#[]⟩)] : Value) else we (M ++ [w]) j) = we ((M ++ [w]) ++ [(a, ByteArray.empty)]) j]) := by kernel_rfl
theorem rpP_el (M : List (Int × ByteArray)) (w : Int × ByteArray) (a : Int) : ∀ j, j < (M ++ [w]).length + 1 → (bif Nat.beq j (M.length + 1) then (.agg #[.int .i64 a, .string (⟨#[]⟩)] : Value) else we (M ++ [w]) j) = we ((M ++ [w]) ++ [(a, ByteArray.empty)]) j := fun j hj => by
  have := we_app (M ++ [w]) (a, ByteArray.empty) j (by simp at hj ⊢; omega)
  rw [← this, List.length_append]
  rfl
noncomputable def rpP (M : List (Int × ByteArray)) (w : Int × ByteArray) (t : ByteArray) (a : Int) (c k : Int) (bad : Bool) (hn : M.length + 1 < 1000000) : CodeC P :=
  onceC mo ZZ (by rfl) 1 65 (condOf P 10 2) [901, 900] (rpP_s M w t a c k bad) .normal (rpP_f M w t a c k bad) rfl rfl (by kernel_rfl) (by kernel_rfl) [901] rfl rfl
    (step_run (rpP_run M w t a c k bad) (ps_cons hn (ps_cons rfl (ps_cons rfl (ps_cons rfl (ps_cons rfl (ps_cons rfl (ps_cons rfl (ps_cons rfl (ps_cons rfl (ps_cons rfl (ps_cons rfl (ps_cons (by simp) (ps_cons (rpP_el M w a) ps_nil))))))))))))) rfl fun S1 hk => ⟨rfl, hk⟩)
noncomputable def ZP (M : List (Int × ByteArray)) (w : Int × ByteArray) (t : ByteArray) (a : Int) (c k : Int) (bad : Bool) (hn : M.length + 1 < 1000000) : Env P := ⟨⟨[nx_c, rs_c, rb_c], [], []⟩, [rpP M w t a c k bad hn], 10, []⟩
theorem rpN0 (t : ByteArray) (a : Int) (k_ : Nat) : stepF P ZZ 1 65 rp_b (rpN_st t a) (.b true :: (.b false :: (.b false :: (.lit :: (.b false :: []))))) 1000 (fun _ => some (rpN_st (t.extract (n1 t : Int).toNat t.size) (IntKind.i64.wrap (a + 1)))) k_ =
  some (.normal, k_, [(decide (((t.size : Nat) : Int) > 0)) = true, sP (fun _ => True) [.string t], rsP [.int .i32 (c1 t), .bool (bd t)], (!(sd (c1 t) (bd t))) = false, rP [.int .i32 (c1 t)], (!(bl (c1 t))) = false, rP [.int .i32 (c1 t)], (!(bl (c1 t))) = false, 0 ≤ n1 t ∧ n1 t ≤ ((t.size : Nat) : Int), (.string (t.extract (n1 t : Int).toNat t.size) : Value) = .string (t.extract (n1 t : Int).toNat t.size), (.int .i64 (IntKind.i64.wrap (a + 1)) : Value) = .int .i64 (IntKind.i64.wrap (a + 1)), (.bool (!(bl (c1 t))) : Value) = .bool false, (.slice none 0 0 : Value) = .slice none 0 0, (.slice none 0 0 : Value) = .slice none 0 0, (.int .i64 0 : Value) = .int .i64 0, (.int .i64 0 : Value) = .int .i64 0]) := by kernel_rfl
theorem rpN0_ok (t : ByteArray) (a : Int) (q0 : (decide (((t.size : Nat) : Int) > 0)) = true) (q1 : (sd (c1 t) (bd t)) = true) (q2 : (bl (c1 t)) = true) (x0 : 0 ≤ n1 t ∧ n1 t ≤ ((t.size : Nat) : Int)) (x1 : (.bool (!(bl (c1 t))) : Value) = .bool false) {good : Out → St → Prop} (hg : ∀ S1, Keeps S1 (rpN_st (t.extract (n1 t : Int).toNat t.size) (IntKind.i64.wrap (a + 1))) → good .normal S1) : StepTo P ZZ 1 65 rp_b (rpN_st t a) good :=
  step_run (rpN0 t a) (ps_cons q0 (ps_cons trivial (ps_cons trivial (ps_cons (neg_f q1) (ps_cons trivial (ps_cons (neg_f q2) (ps_cons trivial (ps_cons (neg_f q2) (ps_cons x0 (ps_cons rfl (ps_cons rfl (ps_cons x1 (ps_cons rfl (ps_cons rfl (ps_cons rfl (ps_cons rfl ps_nil)))))))))))))))) rfl hg
theorem rpN1 (t : ByteArray) (a : Int) (k_ : Nat) : stepF P ZZ 1 65 rp_b (rpN_st t a) (.b false :: []) 1000 (fun _ => some (rpN_st t a)) k_ =
  some ((.exit 0), k_, [(decide (((t.size : Nat) : Int) > 0)) = false, (.string t : Value) = .string t, (.int .i64 a : Value) = .int .i64 a, (.bool false : Value) = .bool false, (.slice none 0 0 : Value) = .slice none 0 0, (.slice none 0 0 : Value) = .slice none 0 0, (.int .i64 0 : Value) = .int .i64 0, (.int .i64 0 : Value) = .int .i64 0]) := by kernel_rfl
theorem rpN1_ok (t : ByteArray) (a : Int) (q0 : (decide (((t.size : Nat) : Int) > 0)) = false)  {good : Out → St → Prop} (hg : ∀ S1, Keeps S1 (rpN_st t a) → good (.exit 0) S1) : StepTo P ZZ 1 65 rp_b (rpN_st t a) good :=
  step_run (rpN1 t a) (ps_cons q0 (ps_cons rfl (ps_cons rfl (ps_cons rfl (ps_cons rfl (ps_cons rfl (ps_cons rfl (ps_cons rfl ps_nil)))))))) rfl hg
theorem rpN2 (t : ByteArray) (a : Int) (k_ : Nat) : stepF P ZZ 1 65 rp_b (rpN_st t a) (.b true :: (.b true :: [])) 1000 (fun _ => some (rpB_st a)) k_ =
  some (.ret, k_, [(decide (((t.size : Nat) : Int) > 0)) = true, sP (fun _ => True) [.string t], rsP [.int .i32 (c1 t), .bool (bd t)], (!(sd (c1 t) (bd t))) = true, (.slice none 0 0 : Value) = .slice none 0 0, (.int .i64 a : Value) = .int .i64 a, (.int .i64 10 : Value) = .int .i64 10]) := by kernel_rfl
theorem rpN2_ok (t : ByteArray) (a : Int) (q0 : (decide (((t.size : Nat) : Int) > 0)) = true) (q1 : (sd (c1 t) (bd t)) = false)  {good : Out → St → Prop} (hg : ∀ S1, Keeps S1 (rpB_st a) → good .ret S1) : StepTo P ZZ 1 65 rp_b (rpN_st t a) good :=
  step_run (rpN2 t a) (ps_cons q0 (ps_cons trivial (ps_cons trivial (ps_cons (neg_t q1) (ps_cons rfl (ps_cons rfl (ps_cons rfl ps_nil))))))) rfl hg
theorem rpN3 (t : ByteArray) (a : Int) (k_ : Nat) : stepF P ZZ 1 65 rp_b (rpN_st t a) (.b true :: (.b false :: (.b true :: (.lit :: (.lit :: (.b true :: [])))))) 1000 (fun _ => some (rpR_st ([] : List (Int × ByteArray)) (a, (⟨#[]⟩ : ByteArray) ++ (t.extract 0 (n1 t : Int).toNat)) (t.extract (n1 t : Int).toNat t.size) (IntKind.i64.wrap (a + 1)) (!(bl (c1 t))))) k_ =
  some (.normal, k_, [(decide (((t.size : Nat) : Int) > 0)) = true, sP (fun _ => True) [.string t], rsP [.int .i32 (c1 t), .bool (bd t)], (!(sd (c1 t) (bd t))) = false, rP [.int .i32 (c1 t)], (!(bl (c1 t))) = true, 0 < 1000000, rP [.int .i32 (c1 t)], (!(bl (c1 t))) = true, 0 < 1, 0 < 1, 0 ≤ n1 t ∧ n1 t ≤ ((t.size : Nat) : Int), (((⟨#[]⟩ : ByteArray).size + (t.extract 0 (n1 t : Int).toNat).size : Nat) : Int) ≤ IntKind.i64.max, 0 < 1, 0 < 1, 0 ≤ n1 t ∧ n1 t ≤ ((t.size : Nat) : Int), (.string (t.extract (n1 t : Int).toNat t.size) : Value) = .string (t.extract (n1 t : Int).toNat t.size), (.int .i64 (IntKind.i64.wrap (a + 1)) : Value) = .int .i64 (IntKind.i64.wrap (a + 1)), (.bool (!(bl (c1 t))) : Value) = .bool (!(bl (c1 t))), (.row 1027 : SV) = .row 1027, (.slice none 0 0 : Value) = .slice none 0 0, (.int .i64 0 : Value) = .int .i64 0, (.int .i64 0 : Value) = .int .i64 0, 1 = ([] : List (Int × ByteArray)).length + 1, ∀ j, j < ([] : List (Int × ByteArray)).length + 1 → (bif Nat.beq j 0 then (.agg #[.int .i64 a, .string ((⟨#[]⟩ : ByteArray) ++ (t.extract 0 (n1 t : Int).toNat))] : Value) else (bif Nat.beq j 0 then (.agg #[.int .i64 a, .string (⟨#[]⟩)] : Value) else undef)) = we (([] : List (Int × ByteArray)) ++ [(a, (⟨#[]⟩ : ByteArray) ++ (t.extract 0 (n1 t : Int).toNat))]) j]) := by kernel_rfl
theorem rpN3_ok (t : ByteArray) (a : Int) (q0 : (decide (((t.size : Nat) : Int) > 0)) = true) (q1 : (sd (c1 t) (bd t)) = true) (q2 : (bl (c1 t)) = false) (x0 : 0 ≤ n1 t ∧ n1 t ≤ ((t.size : Nat) : Int)) (x1 : (((⟨#[]⟩ : ByteArray).size + (t.extract 0 (n1 t : Int).toNat).size : Nat) : Int) ≤ IntKind.i64.max) (x2 : 0 ≤ n1 t ∧ n1 t ≤ ((t.size : Nat) : Int)) (x3 : 1 = ([] : List (Int × ByteArray)).length + 1) (el_rpN3 : ∀ j, j < ([] : List (Int × ByteArray)).length + 1 → (bif Nat.beq j 0 then (.agg #[.int .i64 a, .string ((⟨#[]⟩ : ByteArray) ++ (t.extract 0 (n1 t : Int).toNat))] : Value) else (bif Nat.beq j 0 then (.agg #[.int .i64 a, .string (⟨#[]⟩)] : Value) else undef)) = we (([] : List (Int × ByteArray)) ++ [(a, (⟨#[]⟩ : ByteArray) ++ (t.extract 0 (n1 t : Int).toNat))]) j) {good : Out → St → Prop} (hg : ∀ S1, Keeps S1 (rpR_st ([] : List (Int × ByteArray)) (a, (⟨#[]⟩ : ByteArray) ++ (t.extract 0 (n1 t : Int).toNat)) (t.extract (n1 t : Int).toNat t.size) (IntKind.i64.wrap (a + 1)) (!(bl (c1 t)))) → good .normal S1) : StepTo P ZZ 1 65 rp_b (rpN_st t a) good :=
  step_run (rpN3 t a) (ps_cons q0 (ps_cons trivial (ps_cons trivial (ps_cons (neg_f q1) (ps_cons trivial (ps_cons (neg_t q2) (ps_cons (by decide) (ps_cons trivial (ps_cons (neg_t q2) (ps_cons (by decide) (ps_cons (by decide) (ps_cons x0 (ps_cons x1 (ps_cons (by decide) (ps_cons (by decide) (ps_cons x2 (ps_cons rfl (ps_cons rfl (ps_cons rfl (ps_cons rfl (ps_cons rfl (ps_cons rfl (ps_cons rfl (ps_cons x3 (ps_cons (el_rpN3) ps_nil))))))))))))))))))))))))) rfl hg
theorem rpR0 (M : List (Int × ByteArray)) (w : Int × ByteArray) (t : ByteArray) (a : Int) (i : Bool) (hn : M.length + 1 < 1000000) (k_ : Nat) : stepF P (ZP M w t a (c1 t) (n1 t) (bd t) hn) 1 65 rp_b (rpR_st M w t a i) (.b true :: (.b false :: (.b false :: (.lit :: (.b false :: []))))) 1000 (fun _ => some (rpR_st M w (t.extract (n1 t : Int).toNat t.size) (IntKind.i64.wrap (a + 1)) (!(bl (c1 t))))) k_ =
  some (.normal, k_, [(decide (((t.size : Nat) : Int) > 0)) = true, sP (fun _ => True) [.string t], rsP [.int .i32 (c1 t), .bool (bd t)], (!(sd (c1 t) (bd t))) = false, rP [.int .i32 (c1 t)], (!(bl (c1 t))) = false, rP [.int .i32 (c1 t)], (!(bl (c1 t))) = false, 0 ≤ n1 t ∧ n1 t ≤ ((t.size : Nat) : Int), (.string (t.extract (n1 t : Int).toNat t.size) : Value) = .string (t.extract (n1 t : Int).toNat t.size), (.int .i64 (IntKind.i64.wrap (a + 1)) : Value) = .int .i64 (IntKind.i64.wrap (a + 1)), (.bool (!(bl (c1 t))) : Value) = .bool (!(bl (c1 t))), (.row 900 : SV) = .row 900, (.slice none 0 0 : Value) = .slice none 0 0, (.int .i64 0 : Value) = .int .i64 0, (.int .i64 0 : Value) = .int .i64 0, M.length + 1 = M.length + 1, ∀ j, j < M.length + 1 → we (M ++ [w]) j = we (M ++ [w]) j]) := by kernel_rfl
theorem rpR0_ok (M : List (Int × ByteArray)) (w : Int × ByteArray) (t : ByteArray) (a : Int) (i : Bool) (hn : M.length + 1 < 1000000) (q0 : (decide (((t.size : Nat) : Int) > 0)) = true) (q1 : (sd (c1 t) (bd t)) = true) (q2 : (bl (c1 t)) = true) (x0 : 0 ≤ n1 t ∧ n1 t ≤ ((t.size : Nat) : Int)) {good : Out → St → Prop} (hg : ∀ S1, Keeps S1 (rpR_st M w (t.extract (n1 t : Int).toNat t.size) (IntKind.i64.wrap (a + 1)) (!(bl (c1 t)))) → good .normal S1) : StepTo P (ZP M w t a (c1 t) (n1 t) (bd t) hn) 1 65 rp_b (rpR_st M w t a i) good :=
  step_run (rpR0 M w t a i hn) (ps_cons q0 (ps_cons trivial (ps_cons trivial (ps_cons (neg_f q1) (ps_cons trivial (ps_cons (neg_f q2) (ps_cons trivial (ps_cons (neg_f q2) (ps_cons x0 (ps_cons rfl (ps_cons rfl (ps_cons rfl (ps_cons rfl (ps_cons rfl (ps_cons rfl (ps_cons rfl (ps_cons rfl (ps_cons (fun _ _ => rfl) ps_nil)))))))))))))))))) rfl hg
theorem rpR1 (M : List (Int × ByteArray)) (w : Int × ByteArray) (t : ByteArray) (a : Int) (i : Bool) (hn : M.length + 1 < 1000000) (k_ : Nat) : stepF P (ZP M w t a (c1 t) (n1 t) (bd t) hn) 1 65 rp_b (rpR_st M w t a i) (.b false :: []) 1000 (fun _ => some (rpR_st M w t a i)) k_ =
  some ((.exit 0), k_, [(decide (((t.size : Nat) : Int) > 0)) = false, (.string t : Value) = .string t, (.int .i64 a : Value) = .int .i64 a, (.bool i : Value) = .bool i, (.row 900 : SV) = .row 900, (.slice none 0 0 : Value) = .slice none 0 0, (.int .i64 0 : Value) = .int .i64 0, (.int .i64 0 : Value) = .int .i64 0, M.length + 1 = M.length + 1, ∀ j, j < M.length + 1 → we (M ++ [w]) j = we (M ++ [w]) j]) := by kernel_rfl
theorem rpR1_ok (M : List (Int × ByteArray)) (w : Int × ByteArray) (t : ByteArray) (a : Int) (i : Bool) (hn : M.length + 1 < 1000000) (q0 : (decide (((t.size : Nat) : Int) > 0)) = false)  {good : Out → St → Prop} (hg : ∀ S1, Keeps S1 (rpR_st M w t a i) → good (.exit 0) S1) : StepTo P (ZP M w t a (c1 t) (n1 t) (bd t) hn) 1 65 rp_b (rpR_st M w t a i) good :=
  step_run (rpR1 M w t a i hn) (ps_cons q0 (ps_cons rfl (ps_cons rfl (ps_cons rfl (ps_cons rfl (ps_cons rfl (ps_cons rfl (ps_cons rfl (ps_cons rfl (ps_cons (fun _ _ => rfl) ps_nil)))))))))) rfl hg
theorem rpR2 (M : List (Int × ByteArray)) (w : Int × ByteArray) (t : ByteArray) (a : Int) (i : Bool) (hn : M.length + 1 < 1000000) (k_ : Nat) : stepF P (ZP M w t a (c1 t) (n1 t) (bd t) hn) 1 65 rp_b (rpR_st M w t a i) (.b true :: (.b true :: [])) 1000 (fun _ => some (rpB_st a)) k_ =
  some (.ret, k_, [(decide (((t.size : Nat) : Int) > 0)) = true, sP (fun _ => True) [.string t], rsP [.int .i32 (c1 t), .bool (bd t)], (!(sd (c1 t) (bd t))) = true, (.slice none 0 0 : Value) = .slice none 0 0, (.int .i64 a : Value) = .int .i64 a, (.int .i64 10 : Value) = .int .i64 10]) := by kernel_rfl
theorem rpR2_ok (M : List (Int × ByteArray)) (w : Int × ByteArray) (t : ByteArray) (a : Int) (i : Bool) (hn : M.length + 1 < 1000000) (q0 : (decide (((t.size : Nat) : Int) > 0)) = true) (q1 : (sd (c1 t) (bd t)) = false)  {good : Out → St → Prop} (hg : ∀ S1, Keeps S1 (rpB_st a) → good .ret S1) : StepTo P (ZP M w t a (c1 t) (n1 t) (bd t) hn) 1 65 rp_b (rpR_st M w t a i) good :=
  step_run (rpR2 M w t a i hn) (ps_cons q0 (ps_cons trivial (ps_cons trivial (ps_cons (neg_t q1) (ps_cons rfl (ps_cons rfl (ps_cons rfl ps_nil))))))) rfl hg
theorem rpR3 (M : List (Int × ByteArray)) (w : Int × ByteArray) (t : ByteArray) (a : Int) (i : Bool) (hn : M.length + 1 < 1000000) (k_ : Nat) : stepF P (ZP M w t a (c1 t) (n1 t) (bd t) hn) 1 65 rp_b (rpR_st M w t a i) (.b true :: (.b false :: (.b true :: (.b false :: (.b true :: (.n M.length :: (.n M.length :: []))))))) 1000 (fun _ => some (rpR_st M (w.1, ((wAt (M ++ [w]) M.length).2) ++ (t.extract 0 (n1 t : Int).toNat)) (t.extract (n1 t : Int).toNat t.size) (IntKind.i64.wrap (a + 1)) (!(bl (c1 t))))) k_ =
  some (.normal, k_, [(decide (((t.size : Nat) : Int) > 0)) = true, sP (fun _ => True) [.string t], rsP [.int .i32 (c1 t), .bool (bd t)], (!(sd (c1 t) (bd t))) = false, rP [.int .i32 (c1 t)], (!(bl (c1 t))) = true, (!i) = false, rP [.int .i32 (c1 t)], (!(bl (c1 t))) = true, IntKind.i64.wrap (((M.length + 1 : Nat) : Int) - 1) = ↑M.length, M.length < M.length + 1, M.length < M.length + 1, 0 ≤ n1 t ∧ n1 t ≤ ((t.size : Nat) : Int), ((((wAt (M ++ [w]) M.length).2).size + (t.extract 0 (n1 t : Int).toNat).size : Nat) : Int) ≤ IntKind.i64.max, IntKind.i64.wrap (((M.length + 1 : Nat) : Int) - 1) = ↑M.length, M.length < M.length + 1, M.length < M.length + 1, 0 ≤ n1 t ∧ n1 t ≤ ((t.size : Nat) : Int), (.string (t.extract (n1 t : Int).toNat t.size) : Value) = .string (t.extract (n1 t : Int).toNat t.size), (.int .i64 (IntKind.i64.wrap (a + 1)) : Value) = .int .i64 (IntKind.i64.wrap (a + 1)), (.bool (!(bl (c1 t))) : Value) = .bool (!(bl (c1 t))), (.row 900 : SV) = .row 900, (.slice none 0 0 : Value) = .slice none 0 0, (.int .i64 0 : Value) = .int .i64 0, (.int .i64 0 : Value) = .int .i64 0, M.length + 1 = M.length + 1, ∀ j, j < M.length + 1 → (bif Nat.beq j M.length then (.agg #[.int .i64 ((wAt (M ++ [w]) M.length).1), .string (((wAt (M ++ [w]) M.length).2) ++ (t.extract 0 (n1 t : Int).toNat))] : Value) else we (M ++ [w]) j) = we (M ++ [(w.1, ((wAt (M ++ [w]) M.length).2) ++ (t.extract 0 (n1 t : Int).toNat))]) j]) := by kernel_rfl
theorem rpR3_ok (M : List (Int × ByteArray)) (w : Int × ByteArray) (t : ByteArray) (a : Int) (i : Bool) (hn : M.length + 1 < 1000000) (q0 : (decide (((t.size : Nat) : Int) > 0)) = true) (q1 : (sd (c1 t) (bd t)) = true) (q2 : (bl (c1 t)) = false) (q3 : (i) = true) (x0 : IntKind.i64.wrap (((M.length + 1 : Nat) : Int) - 1) = ↑M.length) (x1 : 0 ≤ n1 t ∧ n1 t ≤ ((t.size : Nat) : Int)) (x2 : ((((wAt (M ++ [w]) M.length).2).size + (t.extract 0 (n1 t : Int).toNat).size : Nat) : Int) ≤ IntKind.i64.max) (x3 : IntKind.i64.wrap (((M.length + 1 : Nat) : Int) - 1) = ↑M.length) (x4 : 0 ≤ n1 t ∧ n1 t ≤ ((t.size : Nat) : Int)) (el_rpR3 : ∀ j, j < M.length + 1 → (bif Nat.beq j M.length then (.agg #[.int .i64 ((wAt (M ++ [w]) M.length).1), .string (((wAt (M ++ [w]) M.length).2) ++ (t.extract 0 (n1 t : Int).toNat))] : Value) else we (M ++ [w]) j) = we (M ++ [(w.1, ((wAt (M ++ [w]) M.length).2) ++ (t.extract 0 (n1 t : Int).toNat))]) j) {good : Out → St → Prop} (hg : ∀ S1, Keeps S1 (rpR_st M (w.1, ((wAt (M ++ [w]) M.length).2) ++ (t.extract 0 (n1 t : Int).toNat)) (t.extract (n1 t : Int).toNat t.size) (IntKind.i64.wrap (a + 1)) (!(bl (c1 t)))) → good .normal S1) : StepTo P (ZP M w t a (c1 t) (n1 t) (bd t) hn) 1 65 rp_b (rpR_st M w t a i) good :=
  step_run (rpR3 M w t a i hn) (ps_cons q0 (ps_cons trivial (ps_cons trivial (ps_cons (neg_f q1) (ps_cons trivial (ps_cons (neg_t q2) (ps_cons (neg_f q3) (ps_cons trivial (ps_cons (neg_t q2) (ps_cons x0 (ps_cons (Nat.lt_succ_self _) (ps_cons (Nat.lt_succ_self _) (ps_cons x1 (ps_cons x2 (ps_cons x3 (ps_cons (Nat.lt_succ_self _) (ps_cons (Nat.lt_succ_self _) (ps_cons x4 (ps_cons rfl (ps_cons rfl (ps_cons rfl (ps_cons rfl (ps_cons rfl (ps_cons rfl (ps_cons rfl (ps_cons rfl (ps_cons (el_rpR3) ps_nil))))))))))))))))))))))))))) rfl hg
theorem rpR4 (M : List (Int × ByteArray)) (w : Int × ByteArray) (t : ByteArray) (a : Int) (i : Bool) (hn : M.length + 1 < 1000000) (k_ : Nat) : stepF P (ZP M w t a (c1 t) (n1 t) (bd t) hn) 1 65 rp_b (rpR_st M w t a i) (.b true :: (.b false :: (.b true :: (.n 0 :: (.b true :: (.n ((M ++ [w]).length) :: (.n ((M ++ [w]).length) :: []))))))) 1000 (fun _ => some (rpR_st (M ++ [w]) (a, ((wAt ((M ++ [w]) ++ [(a, ByteArray.empty)]) ((M ++ [w]).length)).2) ++ (t.extract 0 (n1 t : Int).toNat)) (t.extract (n1 t : Int).toNat t.size) (IntKind.i64.wrap (a + 1)) (!(bl (c1 t))))) k_ =
  some (.normal, k_, [(decide (((t.size : Nat) : Int) > 0)) = true, sP (fun _ => True) [.string t], rsP [.int .i32 (c1 t), .bool (bd t)], (!(sd (c1 t) (bd t))) = false, rP [.int .i32 (c1 t)], (!(bl (c1 t))) = true, (condOf P 10 2) = (condOf P 10 2), (.string t : Value) = .string t, (.int .i64 a : Value) = .int .i64 a, (.bool i : Value) = .bool false, (.row 900 : SV) = .row 900, (.slice none 0 0 : Value) = .slice none 0 0, (.int .i64 0 : Value) = .int .i64 0, (.int .i64 0 : Value) = .int .i64 0, (.int .i32 (c1 t) : Value) = .int .i32 (c1 t), (.int .i64 (n1 t) : Value) = .int .i64 (n1 t), (.bool (bd t) : Value) = .bool (bd t), (.bool (!i) : Value) = .bool true, M.length + 1 = M.length + 1, ∀ j, j < M.length + 1 → we (M ++ [w]) j = we (M ++ [w]) j, rP [.int .i32 (c1 t)], (!(bl (c1 t))) = true, IntKind.i64.wrap ((((M ++ [w]).length + 1 : Nat) : Int) - 1) = ↑((M ++ [w]).length), (M ++ [w]).length < (M ++ [w]).length + 1, (M ++ [w]).length < (M ++ [w]).length + 1, 0 ≤ n1 t ∧ n1 t ≤ ((t.size : Nat) : Int), ((((wAt ((M ++ [w]) ++ [(a, ByteArray.empty)]) ((M ++ [w]).length)).2).size + (t.extract 0 (n1 t : Int).toNat).size : Nat) : Int) ≤ IntKind.i64.max, IntKind.i64.wrap ((((M ++ [w]).length + 1 : Nat) : Int) - 1) = ↑((M ++ [w]).length), (M ++ [w]).length < (M ++ [w]).length + 1, (M ++ [w]).length < (M ++ [w]).length + 1, 0 ≤ n1 t ∧ n1 t ≤ ((t.size : Nat) : Int), (.string (t.extract (n1 t : Int).toNat t.size) : Value) = .string (t.extract (n1 t : Int).toNat t.size), (.int .i64 (IntKind.i64.wrap (a + 1)) : Value) = .int .i64 (IntKind.i64.wrap (a + 1)), (.bool (!(bl (c1 t))) : Value) = .bool (!(bl (c1 t))), (.row 901 : SV) = .row 901, (.slice none 0 0 : Value) = .slice none 0 0, (.int .i64 0 : Value) = .int .i64 0, (.int .i64 0 : Value) = .int .i64 0, (M ++ [w]).length + 1 = (M ++ [w]).length + 1, ∀ j, j < (M ++ [w]).length + 1 → (bif Nat.beq j ((M ++ [w]).length) then (.agg #[.int .i64 ((wAt ((M ++ [w]) ++ [(a, ByteArray.empty)]) ((M ++ [w]).length)).1), .string (((wAt ((M ++ [w]) ++ [(a, ByteArray.empty)]) ((M ++ [w]).length)).2) ++ (t.extract 0 (n1 t : Int).toNat))] : Value) else we ((M ++ [w]) ++ [(a, ByteArray.empty)]) j) = we ((M ++ [w]) ++ [(a, ((wAt ((M ++ [w]) ++ [(a, ByteArray.empty)]) ((M ++ [w]).length)).2) ++ (t.extract 0 (n1 t : Int).toNat))]) j]) := by kernel_rfl
theorem rpR4_ok (M : List (Int × ByteArray)) (w : Int × ByteArray) (t : ByteArray) (a : Int) (i : Bool) (hn : M.length + 1 < 1000000) (q0 : (decide (((t.size : Nat) : Int) > 0)) = true) (q1 : (sd (c1 t) (bd t)) = true) (q2 : (bl (c1 t)) = false) (q3 : (i) = false) (x0 : IntKind.i64.wrap ((((M ++ [w]).length + 1 : Nat) : Int) - 1) = ↑((M ++ [w]).length)) (x1 : 0 ≤ n1 t ∧ n1 t ≤ ((t.size : Nat) : Int)) (x2 : ((((wAt ((M ++ [w]) ++ [(a, ByteArray.empty)]) ((M ++ [w]).length)).2).size + (t.extract 0 (n1 t : Int).toNat).size : Nat) : Int) ≤ IntKind.i64.max) (x3 : IntKind.i64.wrap ((((M ++ [w]).length + 1 : Nat) : Int) - 1) = ↑((M ++ [w]).length)) (x4 : 0 ≤ n1 t ∧ n1 t ≤ ((t.size : Nat) : Int)) (el_rpR4 : ∀ j, j < (M ++ [w]).length + 1 → (bif Nat.beq j ((M ++ [w]).length) then (.agg #[.int .i64 ((wAt ((M ++ [w]) ++ [(a, ByteArray.empty)]) ((M ++ [w]).length)).1), .string (((wAt ((M ++ [w]) ++ [(a, ByteArray.empty)]) ((M ++ [w]).length)).2) ++ (t.extract 0 (n1 t : Int).toNat))] : Value) else we ((M ++ [w]) ++ [(a, ByteArray.empty)]) j) = we ((M ++ [w]) ++ [(a, ((wAt ((M ++ [w]) ++ [(a, ByteArray.empty)]) ((M ++ [w]).length)).2) ++ (t.extract 0 (n1 t : Int).toNat))]) j) {good : Out → St → Prop} (hg : ∀ S1, Keeps S1 (rpR_st (M ++ [w]) (a, ((wAt ((M ++ [w]) ++ [(a, ByteArray.empty)]) ((M ++ [w]).length)).2) ++ (t.extract 0 (n1 t : Int).toNat)) (t.extract (n1 t : Int).toNat t.size) (IntKind.i64.wrap (a + 1)) (!(bl (c1 t)))) → good .normal S1) : StepTo P (ZP M w t a (c1 t) (n1 t) (bd t) hn) 1 65 rp_b (rpR_st M w t a i) good :=
  step_run (rpR4 M w t a i hn) (ps_cons q0 (ps_cons trivial (ps_cons trivial (ps_cons (neg_f q1) (ps_cons trivial (ps_cons (neg_t q2) (ps_cons rfl (ps_cons rfl (ps_cons rfl (ps_cons (congrArg Value.bool q3) (ps_cons rfl (ps_cons rfl (ps_cons rfl (ps_cons rfl (ps_cons rfl (ps_cons rfl (ps_cons rfl (ps_cons (congrArg Value.bool (neg_t q3)) (ps_cons rfl (ps_cons (fun _ _ => rfl) (ps_cons trivial (ps_cons (neg_t q2) (ps_cons x0 (ps_cons (Nat.lt_succ_self _) (ps_cons (Nat.lt_succ_self _) (ps_cons x1 (ps_cons x2 (ps_cons x3 (ps_cons (Nat.lt_succ_self _) (ps_cons (Nat.lt_succ_self _) (ps_cons x4 (ps_cons rfl (ps_cons rfl (ps_cons rfl (ps_cons rfl (ps_cons rfl (ps_cons rfl (ps_cons rfl (ps_cons rfl (ps_cons (el_rpR4) ps_nil)))))))))))))))))))))))))))))))))))))))) rfl hg
def rW (s : ByteArray) (k : Nat) : Option (List (Int × ByteArray) × (Int × ByteArray) × Bool) :=
  if decide ((sst s k).1 ≥ 0) then some ((sst s k).2.2, ((sst s k).1, s.extract (sst s k).2.1 (ps s k)), true)
  else match (sst s k).2.2.getLast? with
    | none => none
    | some w => some ((sst s k).2.2.dropLast, w, false)
section
variable {s : ByteArray} {k : Nat} {b : Int} {f : Nat} {L M : List (Int × ByteArray)} {w : Int × ByteArray}
theorem rW_in (h : sst s k = (b, f, L)) (hb : decide (b ≥ 0) = true) : rW s k = some (L, (b, s.extract f (ps s k)), true) := by
  unfold rW
  rw [h]
  dsimp only
  rw [if_pos hb]
theorem rW_no (h : sst s k = (b, f, [])) (hb : decide (b ≥ 0) = false) : rW s k = none := by
  unfold rW
  rw [h]
  dsimp only
  rw [if_neg (by simp [hb])]
  rfl
theorem rW_out (h : sst s k = (b, f, M ++ [w])) (hb : decide (b ≥ 0) = false) : rW s k = some (M, w, false) := by
  unfold rW
  rw [h]
  dsimp only
  rw [if_neg (by simp [hb]), List.getLast?_concat, List.dropLast_concat]
end
theorem rW_len {s : ByteArray} {k : Nat} {M : List (Int × ByteArray)} {w : Int × ByteArray} {i : Bool} (h : rW s k = some (M, w, i)) : 2 * M.length + 1 ≤ k := by
  have hc := sst_cnt s k
  rcases e : sst s k with ⟨b, f, L⟩
  rw [e] at hc
  dsimp only at hc
  cases hb : decide (b ≥ 0) with
  | true =>
    rw [rW_in e hb] at h
    simp only [Option.some.injEq, Prod.mk.injEq] at h
    rw [if_pos (of_decide_eq_true hb), h.1] at hc
    exact hc
  | false =>
    rcases List.eq_nil_or_concat L with rfl | ⟨M', w', rfl⟩
    · rw [rW_no e hb] at h; cases h
    · rw [List.concat_eq_append] at e hc
      rw [rW_out e hb] at h
      simp only [Option.some.injEq, Prod.mk.injEq] at h
      rw [h.1] at hc
      simp at hc
      omega
noncomputable def rG (s : ByteArray) (k : Nat) : St :=
  match rW s k with
  | none => rpN_st (tl s k) (k : Int)
  | some (M, w, i) => rpR_st M w (tl s k) (k : Int) i
noncomputable def rE (s : ByteArray) (k : Nat) : Env P :=
  match rW s k with
  | none => ZZ
  | some (M, w, _) => if h : M.length + 1 < 1000000 then ZP M w (tl s k) (k : Int) (c1 (tl s k)) (n1 (tl s k)) (bd (tl s k)) h else ZZ
section
variable {s : ByteArray} {k : Nat} {M : List (Int × ByteArray)} {w : Int × ByteArray} {i : Bool}
theorem rG_N (h : rW s k = none) : rG s k = rpN_st (tl s k) (k : Int) := by unfold rG; rw [h]
theorem rG_R (h : rW s k = some (M, w, i)) : rG s k = rpR_st M w (tl s k) (k : Int) i := by unfold rG; rw [h]
theorem rE_N (h : rW s k = none) : rE s k = ZZ := by unfold rE; rw [h]
theorem rE_R (h : rW s k = some (M, w, i)) (hn : M.length + 1 < 1000000) : rE s k = ZP M w (tl s k) (k : Int) (c1 (tl s k)) (n1 (tl s k)) (bd (tl s k)) hn := by
  unfold rE
  rw [h]
  dsimp only
  rw [dif_pos hn]
end
theorem rE_dfs (s : ByteArray) (k : Nat) : dfsOk (rE s k).dfs = true := by
  unfold rE
  split
  · rfl
  · split <;> rfl
theorem rG_us (s : ByteArray) (k : Nat) : (rG s k).us = [900] := by
  unfold rG
  split <;> rfl
theorem rG_wf (s : ByteArray) (k : Nat) : wfSt [900] (rG s k) = true := by
  unfold rG
  split <;> kernel_rfl
theorem rG_V (s : ByteArray) (k r : Nat) (h : memN r (nmR (rG s k).rs) = true) : memN r [900] = true := by
  unfold rG at h
  split at h
  · cases h
  · exact h
theorem imx {n : Nat} (h : n ≤ 9223372036854775807) : ((n : Nat) : Int) ≤ IntKind.i64.max := by
  have : IntKind.i64.max = 9223372036854775807 := rfl
  rw [this]
  omega
theorem ext_go {s : ByteArray} {f p q : Nat} (h1 : f ≤ p) (h2 : p ≤ q) : s.extract f p ++ s.extract p q = s.extract f q := (ByteArray.extract_eq_extract_append_extract p h1 h2).symm
theorem tl_ext {s : ByteArray} {k : Nat} (h : k < cn s) : (tl s k).extract 0 (n1 (tl s k)).toNat = s.extract (ps s k) (ps s (k + 1)) := by
  rw [tl_n h]
  have h1 := ps_in (cn_lt h)
  have h2 := ps_lt s k
  unfold tl
  rw [Int.toNat_natCast, ByteArray.extract_extract]
  congr 1 <;> omega
theorem kd_cases (c : Int) : kd c = 0 ∨ kd c = 1 ∨ kd c = 2 := by
  unfold kd
  split
  · exact .inr (.inl rfl)
  · split
    · exact .inr (.inr rfl)
    · exact .inl rfl
theorem bad_c {t : ByteArray} (h : bd t = true) : kd (c1 t) = 2 := by
  unfold bd at h
  simp only [Bool.and_eq_true, beq_iff_eq] at h
  rw [h.1]
  rfl
theorem sd_good {t : ByteArray} (h : (kd (c1 t) == 2) = false) : sd (c1 t) (bd t) = true := by
  rw [sd_kd]
  cases hb : bd t with
  | true => rw [bad_c hb] at h; cases h
  | false => simp only [bne, h]; rfl
theorem sd_bad {t : ByteArray} (h : (kd (c1 t) == 2) = true) : sd (c1 t) (bd t) = false := by
  rw [sd_kd]
  simp only [bne, h]
  simp
theorem rp_step {s : ByteArray} (hs : s.size ≤ 1048576) (k : Nat) (hk : k < cn s) (h2 : (kd (rn s k) == 2) = false) {good : Out → St → Prop} (hg : ∀ S1, Keeps S1 (rG s (k + 1)) → good .normal S1) :
    StepTo P (rE s k) 1 65 rp_b (rG s k) good := by
  have hcn := cn_le s
  have hp := tl_pos hk
  have hc := tl_c hk
  have e1 : IntKind.i64.wrap ((k : Int) + 1) = ((k + 1 : Nat) : Int) := by rw [wr (by omega) (by omega)]; rfl
  have q0 : (decide ((((tl s k).size : Nat) : Int) > 0)) = true := decide_eq_true (by omega)
  have q1 : (sd (c1 (tl s k)) (bd (tl s k))) = true := sd_good (by rw [hc]; exact h2)
  have x0 := tl_le hk
  have hsz := tl_size s k
  have e3 := tl_ext hk
  have e4 := tl_next hk
  have hpq : ps s (k + 1) ≤ s.size := ps_in (cn_lt hk)
  have hlt := ps_lt s k
  have en : ((⟨#[]⟩ : ByteArray) ++ (tl s k).extract 0 (n1 (tl s k)).toNat) = s.extract (ps s k) (ps s (k + 1)) := by
    rw [e3]
    exact ByteArray.empty_append
  rcases h : sst s k with ⟨b, f, L⟩
  have hr := sst_rng s k
  have hct := sst_cnt s k
  rw [h] at hr hct
  obtain ⟨r1, r2, r3, r4⟩ := hr
  dsimp only at r1 r2 r3 r4 hct
  have hbl : (kd (rn s k) == 1) = bl (c1 (tl s k)) := by rw [hc, kd_bl]
  cases hb : decide (b ≥ 0) with
  | true =>
    have hb' := of_decide_eq_true hb
    have hW := rW_in h hb
    rw [if_pos hb'] at hct
    have hn : L.length + 1 < 1000000 := by omega
    have hneg : decide (b < 0) = false := decide_eq_false (by omega)
    rw [rG_R hW, rE_R hW hn]
    cases q2 : bl (c1 (tl s k)) with
    | true =>
      refine rpR0_ok L _ _ _ _ hn q0 q1 q2 x0 fun S1 hk1 => hg S1 ?_
      rw [e1, e4, q2] at hk1
      rw [rG_R (rW_out (sst_e' h (by rw [hbl, q2]) hb) (by decide))]
      exact hk1
    | false =>
      have ew : (wAt (L ++ [(b, s.extract f (ps s k))]) L.length).2 ++ (tl s k).extract 0 (n1 (tl s k)).toNat = s.extract f (ps s (k + 1)) := by
        rw [we_last, e3]
        exact ext_go r3 (by omega)
      refine rpR3_ok L _ _ _ _ hn q0 q1 q2 rfl (by rw [wr (by omega) (by omega)]; omega) x0 (imx ?_) (by rw [wr (by omega) (by omega)]; omega) x0 (we_put L _ _) fun S1 hk1 => hg S1 ?_
      · rw [we_last]
        simp only [ByteArray.size_extract]
        omega
      · rw [e1, e4, q2, ew] at hk1
        rw [rG_R (rW_in (sst_n' h (by rw [hneg]; simp) (by rw [hbl, q2]; rfl)) hb)]
        exact hk1
  | false =>
    have hb' := of_decide_eq_false hb
    have hneg : decide (b < 0) = true := decide_eq_true (by omega)
    rcases List.eq_nil_or_concat L with rfl | ⟨M, w, rfl⟩
    · have hW := rW_no h hb
      rw [rG_N hW, rE_N hW]
      cases q2 : bl (c1 (tl s k)) with
      | true =>
        refine rpN0_ok _ _ q0 q1 q2 x0 (by rw [q2]; rfl) fun S1 hk1 => hg S1 ?_
        rw [e1, e4] at hk1
        rw [rG_N (rW_no (sst_n' h (by rw [eq_of_beq (hbl.trans q2)]; rfl) (by rw [hb]; simp)) hb)]
        exact hk1
      | false =>
        have hk0 : (kd (rn s k) == 0) = true := by
          rcases kd_cases (rn s k) with e | e | e
          · rw [e]; rfl
          · rw [e, q2] at hbl; cases hbl
          · rw [e] at h2; cases h2
        refine rpN3_ok _ _ q0 q1 q2 x0 (imx ?_) x0 rfl ?_ fun S1 hk1 => hg S1 ?_
        · simp only [ByteArray.size_extract]
          show 0 + _ ≤ _
          omega
        · intro j hj
          have : j = 0 := by simp at hj; exact hj
          subst this
          rfl
        · rw [e1, e4, q2, en] at hk1
          rw [rG_R (rW_in (sst_b' h hk0 hneg) (decide_eq_true (by omega)))]
          exact hk1
    · rw [List.concat_eq_append] at h hct
      have hW := rW_out h hb
      simp at hct
      have hn : M.length + 1 < 1000000 := by omega
      rw [rG_R hW, rE_R hW hn]
      cases q2 : bl (c1 (tl s k)) with
      | true =>
        refine rpR0_ok M _ _ _ _ hn q0 q1 q2 x0 fun S1 hk1 => hg S1 ?_
        rw [e1, e4, q2] at hk1
        rw [rG_R (rW_out (sst_n' h (by rw [eq_of_beq (hbl.trans q2)]; rfl) (by rw [hb]; simp)) hb)]
        exact hk1
      | false =>
        have hk0 : (kd (rn s k) == 0) = true := by
          rcases kd_cases (rn s k) with e | e | e
          · rw [e]; rfl
          · rw [e, q2] at hbl; cases hbl
          · rw [e] at h2; cases h2
        have el : (M ++ [w]).length = M.length + 1 := by simp
        have ew : (wAt ((M ++ [w]) ++ [((k : Int), ByteArray.empty)]) (M ++ [w]).length).2 ++ (tl s k).extract 0 (n1 (tl s k)).toNat = s.extract (ps s k) (ps s (k + 1)) := by
          rw [we_last]
          exact en
        refine rpR4_ok M _ _ _ _ hn q0 q1 q2 rfl (by rw [wr (by omega) (by omega)]; omega) x0 (imx ?_) (by rw [wr (by omega) (by omega)]; omega) x0 (we_put (M ++ [w]) _ _) fun S1 hk1 => hg S1 ?_
        · rw [we_last]
          simp only [ByteArray.size_extract]
          show 0 + _ ≤ _
          omega
        · rw [e1, e4, q2, ew] at hk1
          rw [rG_R (rW_in (sst_b' h hk0 hneg) (decide_eq_true (by omega)))]
          exact hk1
noncomputable def rpNe (s : ByteArray) (hs : s.size ≤ 1048576) (hg : ∀ j, j < cn s → (kd (rn s j) == 2) = false) (h : rW s (cn s) = none) : CodeC P :=
  loopW mo (rE s) (rE_dfs s) 1 65 rp_b [900] (rG s) (fun k => k ≤ cn s) (fun k => cn s - k) (.exit 0) (rpN_st (tl s (cn s)) ((cn s : Nat) : Int)) (by simp) (rG_us s) rfl (rG_wf s) (by kernel_rfl) [900] (rG_V s) (fun r hr => by cases hr)
    (fun k hk => by
      by_cases hlt : k < cn s
      · exact rp_step hs k hlt (hg k hlt) fun S1 hk1 => .inl ⟨rfl, k + 1, hlt, by omega, hk1⟩
      · have e : k = cn s := by omega
        subst e
        rw [rG_N h, rE_N h]
        exact rpN1_ok _ _ (decide_eq_false (by have := tl_end s; omega)) fun S1 hk1 => .inr ⟨rfl, hk1⟩) 0 (Nat.zero_le _)
noncomputable def rpRe (s : ByteArray) (hs : s.size ≤ 1048576) (hg : ∀ j, j < cn s → (kd (rn s j) == 2) = false) (M : List (Int × ByteArray)) (w : Int × ByteArray) (i : Bool) (h : rW s (cn s) = some (M, w, i)) (hn : M.length + 1 < 1000000) : CodeC P :=
  loopW mo (rE s) (rE_dfs s) 1 65 rp_b [900] (rG s) (fun k => k ≤ cn s) (fun k => cn s - k) (.exit 0) (rpR_st M w (tl s (cn s)) ((cn s : Nat) : Int) i) (by simp) (rG_us s) rfl (rG_wf s) (by kernel_rfl) [900] (rG_V s) (fun r hr => hr)
    (fun k hk => by
      by_cases hlt : k < cn s
      · exact rp_step hs k hlt (hg k hlt) fun S1 hk1 => .inl ⟨rfl, k + 1, hlt, by omega, hk1⟩
      · have e : k = cn s := by omega
        subst e
        rw [rG_R h, rE_R h hn]
        exact rpR1_ok M w _ _ _ hn (decide_eq_false (by have := tl_end s; omega)) fun S1 hk1 => .inr ⟨rfl, hk1⟩) 0 (Nat.zero_le _)
noncomputable def rpBe (s : ByteArray) (hs : s.size ≤ 1048576) (n : Nat) (hn : n < cn s) (hg : ∀ j, j < n → (kd (rn s j) == 2) = false) (hb : (kd (rn s n) == 2) = true) : CodeC P :=
  loopW mo (rE s) (rE_dfs s) 1 65 rp_b [900] (rG s) (fun k => k ≤ n) (fun k => cn s - k) .ret (rpB_st ((n : Nat) : Int)) (by simp) (rG_us s) rfl (rG_wf s) (by kernel_rfl) [900] (rG_V s) (fun r hr => by cases hr)
    (fun k hk => by
      by_cases hlt : k < n
      · exact rp_step hs k (by omega) (hg k hlt) fun S1 hk1 => .inl ⟨rfl, k + 1, hlt, by omega, hk1⟩
      · have e : k = n := by omega
        subst e
        have hp := tl_pos hn
        have q0 : (decide ((((tl s k).size : Nat) : Int) > 0)) = true := decide_eq_true (by omega)
        have q1 : (sd (c1 (tl s k)) (bd (tl s k))) = false := sd_bad (by rw [tl_c hn]; exact hb)
        rcases hW : rW s k with _ | ⟨M, w, i⟩
        · rw [rG_N hW, rE_N hW]
          exact rpN2_ok _ _ q0 q1 fun S1 hk1 => .inr ⟨rfl, hk1⟩
        · have hl : M.length + 1 < 1000000 := by
            have := cn_le s
            have := rW_len hW; omega
          rw [rG_R hW, rE_R hW hl]
          exact rpR2_ok M w _ _ _ hl q0 q1 fun S1 hk1 => .inr ⟨rfl, hk1⟩) 0 (Nat.zero_le _)
end Go.Tx
