/-
  The law WordsNumbers comes to true. Printed by wdZ.py.
-/
import Derived.Test.YtpeepbgpcmodcaaDoorTxV
import Derived.Test.YtpeepbgpcmodcaaDoorTxO
set_option maxRecDepth 100000
namespace Go.Tx
open Go Go.RowKit Go.Sx Go.Proofs
def nxt (a w b c d e : Bool) (t M W D Z : ByteArray) : ByteArray :=
  bif (a || (b && c)) && (d && e) then (t ++ (bif a then M else bif w then W else D)) ++ Z else t ++ (bif a then M else bif w then W else D)
def wT (v : Int) : ByteArray := (((ByteArray.empty).push (UInt8.ofNat (239 : Int).toNat)).push (UInt8.ofNat (188 : Int).toNat)).push (UInt8.ofNat (IntKind.u8.wrap (IntKind.u8.wrap (144 + v) - 48)).toNat)
def tN (s : ByteArray) (n : Int) (wd : Bool) (z : Int) : Nat → ByteArray
  | 0 => ByteArray.empty
  | i + 1 => nxt (strAt s ((i : Nat) : Int) == 45) (id wd) (((i : Nat) : Int) == 0) (decide (n ≥ 0)) (z == 1) (decide (((s.size : Nat) : Int) < 19)) (tN s n wd z i) ⟨#[226, 136, 146]⟩ (wT (strAt s ((i : Nat) : Int))) (s.extract i (i + 1)) ⟨#[48]⟩
theorem nxt_size (a w b c d e : Bool) (t M W D Z : ByteArray) (hM : M.size ≤ 3) (hW : W.size ≤ 3) (hD : D.size ≤ 3) (hZ : Z.size ≤ 1) : (nxt a w b c d e t M W D Z).size ≤ t.size + 4 := by
  have h : (bif a then M else bif w then W else D).size ≤ 3 := by cases a <;> cases w <;> assumption
  unfold nxt
  cases (a || (b && c)) && (d && e) with
  | true =>
    rw [cond_true, ByteArray.size_append, ByteArray.size_append]
    omega
  | false =>
    rw [cond_false, ByteArray.size_append]
    omega
theorem tN_size (s : ByteArray) (n : Int) (wd : Bool) (z : Int) : ∀ i, (tN s n wd z i).size ≤ 4 * i
  | 0 => Nat.le_refl _
  | i + 1 => by
    have ih := tN_size s n wd z i
    have := nxt_size (strAt s ((i : Nat) : Int) == 45) (id wd) (((i : Nat) : Int) == 0) (decide (n ≥ 0)) (z == 1) (decide (((s.size : Nat) : Int) < 19)) (tN s n wd z i) ⟨#[226, 136, 146]⟩ (wT (strAt s ((i : Nat) : Int))) (s.extract i (i + 1)) ⟨#[48]⟩ (by decide) (show 3 ≤ 3 by decide) (by rw [size_ext]; omega) (by decide)
    show (nxt _ _ _ _ _ _ _ _ _ _ _).size ≤ _
    omega
theorem sz1 {a b : ByteArray} (ha : a.size ≤ 800) (hb : b.size ≤ 400) : a.size + b.size ≤ 9223372036854775807 := by omega
theorem sz2 {a b : ByteArray} (ha : a.size ≤ 400) (hb : b.size ≤ 400) : (a ++ b).size ≤ 800 := by
  rw [ByteArray.size_append]
  omega
noncomputable def wz_b : Code := bodyOf (innerOf P 6 0)
def wz_st (n : Int) (wd : Bool) (z c a : Int) (s : ByteArray) (t : ByteArray) (i : Nat) : St := ⟨[(15, .v (.int .i64 ((i : Nat) : Int))), (14, .v (.string t)), (0, .v (.int .i64 n)), (1, .v (.bool wd)), (2, .v (.int .i64 z)), (3, .v (.int .i32 c)), (4, .v (.int .i64 a)), (10, .v (.bool false)), (11, .v (.string s))], [], [], [], []⟩
noncomputable def ZN : Env P := ⟨⟨[], [], []⟩, [], 10, []⟩
theorem wz_w0 (n : Int) (wd : Bool) (z c a : Int) (s : ByteArray) (t : ByteArray) (i : Nat) (k_ : Nat) : stepF P ZN 1 196 wz_b (wz_st n wd z c a s t i) (.b true :: (.b true :: (.b true :: (.lit :: (.lit :: (.b true :: (.b true :: []))))))) 1000 (fun _ => some (wz_st n wd z c a s ((t ++ (⟨#[226, 136, 146]⟩ : ByteArray)) ++ (⟨#[48]⟩ : ByteArray)) (i + 1))) k_ =
  some (.normal, k_, [(decide (((i : Nat) : Int) < ((s.size : Nat) : Int))) = true, 0 ≤ ((i : Nat) : Int) ∧ ((i : Nat) : Int) < ((s.size : Nat) : Int), (strAt s ((i : Nat) : Int) == 45) = true, ((t.size + (⟨#[226, 136, 146]⟩ : ByteArray).size : Nat) : Int) ≤ IntKind.i64.max, 0 ≤ ((i : Nat) : Int) ∧ ((i : Nat) : Int) < ((s.size : Nat) : Int), (strAt s ((i : Nat) : Int) == 45) = true, (z == 1) = true, (decide (((s.size : Nat) : Int) < 19)) = true, (((t ++ (⟨#[226, 136, 146]⟩ : ByteArray)).size + (⟨#[48]⟩ : ByteArray).size : Nat) : Int) ≤ IntKind.i64.max, (.int .i64 (IntKind.i64.wrap (((i : Nat) : Int) + 1)) : Value) = .int .i64 ((i + 1 : Nat) : Int), (.string ((t ++ (⟨#[226, 136, 146]⟩ : ByteArray)) ++ (⟨#[48]⟩ : ByteArray)) : Value) = .string ((t ++ (⟨#[226, 136, 146]⟩ : ByteArray)) ++ (⟨#[48]⟩ : ByteArray)), (.int .i64 n : Value) = .int .i64 n, (.bool wd : Value) = .bool wd, (.int .i64 z : Value) = .int .i64 z, (.int .i32 c : Value) = .int .i32 c, (.int .i64 a : Value) = .int .i64 a, (.bool false : Value) = .bool false, (.string s : Value) = .string s]) := by kernel_rfl
theorem wz_w0_ok (n : Int) (wd : Bool) (z c a : Int) (s : ByteArray) (t : ByteArray) (i : Nat) (q0 : (decide (((i : Nat) : Int) < ((s.size : Nat) : Int))) = true) (q1 : (strAt s ((i : Nat) : Int) == 45) = true) (q2 : (z == 1) = true) (q3 : (decide (((s.size : Nat) : Int) < 19)) = true) (x0 : 0 ≤ ((i : Nat) : Int) ∧ ((i : Nat) : Int) < ((s.size : Nat) : Int)) (x1 : ((t.size + (⟨#[226, 136, 146]⟩ : ByteArray).size : Nat) : Int) ≤ IntKind.i64.max) (x2 : 0 ≤ ((i : Nat) : Int) ∧ ((i : Nat) : Int) < ((s.size : Nat) : Int)) (x3 : (((t ++ (⟨#[226, 136, 146]⟩ : ByteArray)).size + (⟨#[48]⟩ : ByteArray).size : Nat) : Int) ≤ IntKind.i64.max) (x4 : (.int .i64 (IntKind.i64.wrap (((i : Nat) : Int) + 1)) : Value) = .int .i64 ((i + 1 : Nat) : Int)) {good : Out → St → Prop} (hg : ∀ S1, Keeps S1 (wz_st n wd z c a s ((t ++ (⟨#[226, 136, 146]⟩ : ByteArray)) ++ (⟨#[48]⟩ : ByteArray)) (i + 1)) → good .normal S1) : StepTo P ZN 1 196 wz_b (wz_st n wd z c a s t i) good :=
  step_run (wz_w0 n wd z c a s t i) (ps_cons q0 (ps_cons x0 (ps_cons q1 (ps_cons x1 (ps_cons x2 (ps_cons q1 (ps_cons q2 (ps_cons q3 (ps_cons x3 (ps_cons x4 (ps_cons rfl (ps_cons rfl (ps_cons rfl (ps_cons rfl (ps_cons rfl (ps_cons rfl (ps_cons rfl (ps_cons rfl ps_nil)))))))))))))))))) rfl hg
theorem wz_w1 (n : Int) (wd : Bool) (z c a : Int) (s : ByteArray) (t : ByteArray) (i : Nat) (k_ : Nat) : stepF P ZN 1 196 wz_b (wz_st n wd z c a s t i) (.b false :: []) 1000 (fun _ => some (wz_st n wd z c a s t i)) k_ =
  some ((.exit 0), k_, [(decide (((i : Nat) : Int) < ((s.size : Nat) : Int))) = false, (.int .i64 ((i : Nat) : Int) : Value) = .int .i64 ((i : Nat) : Int), (.string t : Value) = .string t, (.int .i64 n : Value) = .int .i64 n, (.bool wd : Value) = .bool wd, (.int .i64 z : Value) = .int .i64 z, (.int .i32 c : Value) = .int .i32 c, (.int .i64 a : Value) = .int .i64 a, (.bool false : Value) = .bool false, (.string s : Value) = .string s]) := by kernel_rfl
theorem wz_w1_ok (n : Int) (wd : Bool) (z c a : Int) (s : ByteArray) (t : ByteArray) (i : Nat) (q0 : (decide (((i : Nat) : Int) < ((s.size : Nat) : Int))) = false)  {good : Out → St → Prop} (hg : ∀ S1, Keeps S1 (wz_st n wd z c a s t i) → good (.exit 0) S1) : StepTo P ZN 1 196 wz_b (wz_st n wd z c a s t i) good :=
  step_run (wz_w1 n wd z c a s t i) (ps_cons q0 (ps_cons rfl (ps_cons rfl (ps_cons rfl (ps_cons rfl (ps_cons rfl (ps_cons rfl (ps_cons rfl (ps_cons rfl (ps_cons rfl ps_nil)))))))))) rfl hg
theorem wz_w2 (n : Int) (wd : Bool) (z c a : Int) (s : ByteArray) (t : ByteArray) (i : Nat) (k_ : Nat) : stepF P ZN 1 196 wz_b (wz_st n wd z c a s t i) (.b true :: (.b false :: (.b true :: (.lit :: (.b false :: (.b true :: (.b true :: (.b true :: (.b true :: []))))))))) 1000 (fun _ => some (wz_st n wd z c a s ((t ++ (wT (strAt s ((i : Nat) : Int)))) ++ (⟨#[48]⟩ : ByteArray)) (i + 1))) k_ =
  some (.normal, k_, [(decide (((i : Nat) : Int) < ((s.size : Nat) : Int))) = true, 0 ≤ ((i : Nat) : Int) ∧ ((i : Nat) : Int) < ((s.size : Nat) : Int), (strAt s ((i : Nat) : Int) == 45) = false, wd = true, 0 ≤ ((i : Nat) : Int) ∧ ((i : Nat) : Int) < ((s.size : Nat) : Int), ((t.size + (wT (strAt s ((i : Nat) : Int))).size : Nat) : Int) ≤ IntKind.i64.max, 0 ≤ ((i : Nat) : Int) ∧ ((i : Nat) : Int) < ((s.size : Nat) : Int), (strAt s ((i : Nat) : Int) == 45) = false, (((i : Nat) : Int) == 0) = true, (decide (n ≥ 0)) = true, (z == 1) = true, (decide (((s.size : Nat) : Int) < 19)) = true, (((t ++ (wT (strAt s ((i : Nat) : Int)))).size + (⟨#[48]⟩ : ByteArray).size : Nat) : Int) ≤ IntKind.i64.max, (.int .i64 (IntKind.i64.wrap (((i : Nat) : Int) + 1)) : Value) = .int .i64 ((i + 1 : Nat) : Int), (.string ((t ++ (wT (strAt s ((i : Nat) : Int)))) ++ (⟨#[48]⟩ : ByteArray)) : Value) = .string ((t ++ (wT (strAt s ((i : Nat) : Int)))) ++ (⟨#[48]⟩ : ByteArray)), (.int .i64 n : Value) = .int .i64 n, (.bool wd : Value) = .bool wd, (.int .i64 z : Value) = .int .i64 z, (.int .i32 c : Value) = .int .i32 c, (.int .i64 a : Value) = .int .i64 a, (.bool false : Value) = .bool false, (.string s : Value) = .string s]) := by kernel_rfl
theorem wz_w2_ok (n : Int) (wd : Bool) (z c a : Int) (s : ByteArray) (t : ByteArray) (i : Nat) (q0 : (decide (((i : Nat) : Int) < ((s.size : Nat) : Int))) = true) (q1 : (strAt s ((i : Nat) : Int) == 45) = false) (q2 : (wd) = true) (q3 : (((i : Nat) : Int) == 0) = true) (q4 : (decide (n ≥ 0)) = true) (q5 : (z == 1) = true) (q6 : (decide (((s.size : Nat) : Int) < 19)) = true) (x0 : 0 ≤ ((i : Nat) : Int) ∧ ((i : Nat) : Int) < ((s.size : Nat) : Int)) (x1 : 0 ≤ ((i : Nat) : Int) ∧ ((i : Nat) : Int) < ((s.size : Nat) : Int)) (x2 : ((t.size + (wT (strAt s ((i : Nat) : Int))).size : Nat) : Int) ≤ IntKind.i64.max) (x3 : 0 ≤ ((i : Nat) : Int) ∧ ((i : Nat) : Int) < ((s.size : Nat) : Int)) (x4 : (((t ++ (wT (strAt s ((i : Nat) : Int)))).size + (⟨#[48]⟩ : ByteArray).size : Nat) : Int) ≤ IntKind.i64.max) (x5 : (.int .i64 (IntKind.i64.wrap (((i : Nat) : Int) + 1)) : Value) = .int .i64 ((i + 1 : Nat) : Int)) {good : Out → St → Prop} (hg : ∀ S1, Keeps S1 (wz_st n wd z c a s ((t ++ (wT (strAt s ((i : Nat) : Int)))) ++ (⟨#[48]⟩ : ByteArray)) (i + 1)) → good .normal S1) : StepTo P ZN 1 196 wz_b (wz_st n wd z c a s t i) good :=
  step_run (wz_w2 n wd z c a s t i) (ps_cons q0 (ps_cons x0 (ps_cons q1 (ps_cons q2 (ps_cons x1 (ps_cons x2 (ps_cons x3 (ps_cons q1 (ps_cons q3 (ps_cons q4 (ps_cons q5 (ps_cons q6 (ps_cons x4 (ps_cons x5 (ps_cons rfl (ps_cons rfl (ps_cons rfl (ps_cons rfl (ps_cons rfl (ps_cons rfl (ps_cons rfl (ps_cons rfl ps_nil)))))))))))))))))))))) rfl hg
theorem wz_w3 (n : Int) (wd : Bool) (z c a : Int) (s : ByteArray) (t : ByteArray) (i : Nat) (k_ : Nat) : stepF P ZN 1 196 wz_b (wz_st n wd z c a s t i) (.b true :: (.b false :: (.b false :: (.b false :: (.b true :: (.b true :: (.b true :: (.b true :: [])))))))) 1000 (fun _ => some (wz_st n wd z c a s ((t ++ (s.extract (((i : Nat) : Int) : Int).toNat (IntKind.i64.wrap (((i : Nat) : Int) + 1) : Int).toNat)) ++ (⟨#[48]⟩ : ByteArray)) (i + 1))) k_ =
  some (.normal, k_, [(decide (((i : Nat) : Int) < ((s.size : Nat) : Int))) = true, 0 ≤ ((i : Nat) : Int) ∧ ((i : Nat) : Int) < ((s.size : Nat) : Int), (strAt s ((i : Nat) : Int) == 45) = false, wd = false, 0 ≤ IntKind.i64.wrap (((i : Nat) : Int) + 1) ∧ IntKind.i64.wrap (((i : Nat) : Int) + 1) ≤ ((s.size : Nat) : Int), 0 ≤ ((i : Nat) : Int) ∧ ((i : Nat) : Int) ≤ (((IntKind.i64.wrap (((i : Nat) : Int) + 1) : Int).toNat : Nat) : Int), ((t.size + (s.extract (((i : Nat) : Int) : Int).toNat (IntKind.i64.wrap (((i : Nat) : Int) + 1) : Int).toNat).size : Nat) : Int) ≤ IntKind.i64.max, 0 ≤ ((i : Nat) : Int) ∧ ((i : Nat) : Int) < ((s.size : Nat) : Int), (strAt s ((i : Nat) : Int) == 45) = false, (((i : Nat) : Int) == 0) = true, (decide (n ≥ 0)) = true, (z == 1) = true, (decide (((s.size : Nat) : Int) < 19)) = true, (((t ++ (s.extract (((i : Nat) : Int) : Int).toNat (IntKind.i64.wrap (((i : Nat) : Int) + 1) : Int).toNat)).size + (⟨#[48]⟩ : ByteArray).size : Nat) : Int) ≤ IntKind.i64.max, (.int .i64 (IntKind.i64.wrap (((i : Nat) : Int) + 1)) : Value) = .int .i64 ((i + 1 : Nat) : Int), (.string ((t ++ (s.extract (((i : Nat) : Int) : Int).toNat (IntKind.i64.wrap (((i : Nat) : Int) + 1) : Int).toNat)) ++ (⟨#[48]⟩ : ByteArray)) : Value) = .string ((t ++ (s.extract (((i : Nat) : Int) : Int).toNat (IntKind.i64.wrap (((i : Nat) : Int) + 1) : Int).toNat)) ++ (⟨#[48]⟩ : ByteArray)), (.int .i64 n : Value) = .int .i64 n, (.bool wd : Value) = .bool wd, (.int .i64 z : Value) = .int .i64 z, (.int .i32 c : Value) = .int .i32 c, (.int .i64 a : Value) = .int .i64 a, (.bool false : Value) = .bool false, (.string s : Value) = .string s]) := by kernel_rfl
theorem wz_w3_ok (n : Int) (wd : Bool) (z c a : Int) (s : ByteArray) (t : ByteArray) (i : Nat) (q0 : (decide (((i : Nat) : Int) < ((s.size : Nat) : Int))) = true) (q1 : (strAt s ((i : Nat) : Int) == 45) = false) (q2 : (wd) = false) (q3 : (((i : Nat) : Int) == 0) = true) (q4 : (decide (n ≥ 0)) = true) (q5 : (z == 1) = true) (q6 : (decide (((s.size : Nat) : Int) < 19)) = true) (x0 : 0 ≤ ((i : Nat) : Int) ∧ ((i : Nat) : Int) < ((s.size : Nat) : Int)) (x1 : 0 ≤ IntKind.i64.wrap (((i : Nat) : Int) + 1) ∧ IntKind.i64.wrap (((i : Nat) : Int) + 1) ≤ ((s.size : Nat) : Int)) (x2 : 0 ≤ ((i : Nat) : Int) ∧ ((i : Nat) : Int) ≤ (((IntKind.i64.wrap (((i : Nat) : Int) + 1) : Int).toNat : Nat) : Int)) (x3 : ((t.size + (s.extract (((i : Nat) : Int) : Int).toNat (IntKind.i64.wrap (((i : Nat) : Int) + 1) : Int).toNat).size : Nat) : Int) ≤ IntKind.i64.max) (x4 : 0 ≤ ((i : Nat) : Int) ∧ ((i : Nat) : Int) < ((s.size : Nat) : Int)) (x5 : (((t ++ (s.extract (((i : Nat) : Int) : Int).toNat (IntKind.i64.wrap (((i : Nat) : Int) + 1) : Int).toNat)).size + (⟨#[48]⟩ : ByteArray).size : Nat) : Int) ≤ IntKind.i64.max) (x6 : (.int .i64 (IntKind.i64.wrap (((i : Nat) : Int) + 1)) : Value) = .int .i64 ((i + 1 : Nat) : Int)) {good : Out → St → Prop} (hg : ∀ S1, Keeps S1 (wz_st n wd z c a s ((t ++ (s.extract (((i : Nat) : Int) : Int).toNat (IntKind.i64.wrap (((i : Nat) : Int) + 1) : Int).toNat)) ++ (⟨#[48]⟩ : ByteArray)) (i + 1)) → good .normal S1) : StepTo P ZN 1 196 wz_b (wz_st n wd z c a s t i) good :=
  step_run (wz_w3 n wd z c a s t i) (ps_cons q0 (ps_cons x0 (ps_cons q1 (ps_cons q2 (ps_cons x1 (ps_cons x2 (ps_cons x3 (ps_cons x4 (ps_cons q1 (ps_cons q3 (ps_cons q4 (ps_cons q5 (ps_cons q6 (ps_cons x5 (ps_cons x6 (ps_cons rfl (ps_cons rfl (ps_cons rfl (ps_cons rfl (ps_cons rfl (ps_cons rfl (ps_cons rfl (ps_cons rfl ps_nil))))))))))))))))))))))) rfl hg
theorem wz_w4 (n : Int) (wd : Bool) (z c a : Int) (s : ByteArray) (t : ByteArray) (i : Nat) (k_ : Nat) : stepF P ZN 1 196 wz_b (wz_st n wd z c a s t i) (.b true :: (.b false :: (.b false :: (.b false :: (.b false :: []))))) 1000 (fun _ => some (wz_st n wd z c a s (t ++ (s.extract (((i : Nat) : Int) : Int).toNat (IntKind.i64.wrap (((i : Nat) : Int) + 1) : Int).toNat)) (i + 1))) k_ =
  some (.normal, k_, [(decide (((i : Nat) : Int) < ((s.size : Nat) : Int))) = true, 0 ≤ ((i : Nat) : Int) ∧ ((i : Nat) : Int) < ((s.size : Nat) : Int), (strAt s ((i : Nat) : Int) == 45) = false, wd = false, 0 ≤ IntKind.i64.wrap (((i : Nat) : Int) + 1) ∧ IntKind.i64.wrap (((i : Nat) : Int) + 1) ≤ ((s.size : Nat) : Int), 0 ≤ ((i : Nat) : Int) ∧ ((i : Nat) : Int) ≤ (((IntKind.i64.wrap (((i : Nat) : Int) + 1) : Int).toNat : Nat) : Int), ((t.size + (s.extract (((i : Nat) : Int) : Int).toNat (IntKind.i64.wrap (((i : Nat) : Int) + 1) : Int).toNat).size : Nat) : Int) ≤ IntKind.i64.max, 0 ≤ ((i : Nat) : Int) ∧ ((i : Nat) : Int) < ((s.size : Nat) : Int), (strAt s ((i : Nat) : Int) == 45) = false, (((i : Nat) : Int) == 0) = false, (.int .i64 (IntKind.i64.wrap (((i : Nat) : Int) + 1)) : Value) = .int .i64 ((i + 1 : Nat) : Int), (.string (t ++ (s.extract (((i : Nat) : Int) : Int).toNat (IntKind.i64.wrap (((i : Nat) : Int) + 1) : Int).toNat)) : Value) = .string (t ++ (s.extract (((i : Nat) : Int) : Int).toNat (IntKind.i64.wrap (((i : Nat) : Int) + 1) : Int).toNat)), (.int .i64 n : Value) = .int .i64 n, (.bool wd : Value) = .bool wd, (.int .i64 z : Value) = .int .i64 z, (.int .i32 c : Value) = .int .i32 c, (.int .i64 a : Value) = .int .i64 a, (.bool false : Value) = .bool false, (.string s : Value) = .string s]) := by kernel_rfl
theorem wz_w4_ok (n : Int) (wd : Bool) (z c a : Int) (s : ByteArray) (t : ByteArray) (i : Nat) (q0 : (decide (((i : Nat) : Int) < ((s.size : Nat) : Int))) = true) (q1 : (strAt s ((i : Nat) : Int) == 45) = false) (q2 : (wd) = false) (q3 : (((i : Nat) : Int) == 0) = false) (x0 : 0 ≤ ((i : Nat) : Int) ∧ ((i : Nat) : Int) < ((s.size : Nat) : Int)) (x1 : 0 ≤ IntKind.i64.wrap (((i : Nat) : Int) + 1) ∧ IntKind.i64.wrap (((i : Nat) : Int) + 1) ≤ ((s.size : Nat) : Int)) (x2 : 0 ≤ ((i : Nat) : Int) ∧ ((i : Nat) : Int) ≤ (((IntKind.i64.wrap (((i : Nat) : Int) + 1) : Int).toNat : Nat) : Int)) (x3 : ((t.size + (s.extract (((i : Nat) : Int) : Int).toNat (IntKind.i64.wrap (((i : Nat) : Int) + 1) : Int).toNat).size : Nat) : Int) ≤ IntKind.i64.max) (x4 : 0 ≤ ((i : Nat) : Int) ∧ ((i : Nat) : Int) < ((s.size : Nat) : Int)) (x5 : (.int .i64 (IntKind.i64.wrap (((i : Nat) : Int) + 1)) : Value) = .int .i64 ((i + 1 : Nat) : Int)) {good : Out → St → Prop} (hg : ∀ S1, Keeps S1 (wz_st n wd z c a s (t ++ (s.extract (((i : Nat) : Int) : Int).toNat (IntKind.i64.wrap (((i : Nat) : Int) + 1) : Int).toNat)) (i + 1)) → good .normal S1) : StepTo P ZN 1 196 wz_b (wz_st n wd z c a s t i) good :=
  step_run (wz_w4 n wd z c a s t i) (ps_cons q0 (ps_cons x0 (ps_cons q1 (ps_cons q2 (ps_cons x1 (ps_cons x2 (ps_cons x3 (ps_cons x4 (ps_cons q1 (ps_cons q3 (ps_cons x5 (ps_cons rfl (ps_cons rfl (ps_cons rfl (ps_cons rfl (ps_cons rfl (ps_cons rfl (ps_cons rfl (ps_cons rfl ps_nil))))))))))))))))))) rfl hg
theorem wz_w5 (n : Int) (wd : Bool) (z c a : Int) (s : ByteArray) (t : ByteArray) (i : Nat) (k_ : Nat) : stepF P ZN 1 196 wz_b (wz_st n wd z c a s t i) (.b true :: (.b false :: (.b false :: (.b false :: (.b true :: (.b false :: [])))))) 1000 (fun _ => some (wz_st n wd z c a s (t ++ (s.extract (((i : Nat) : Int) : Int).toNat (IntKind.i64.wrap (((i : Nat) : Int) + 1) : Int).toNat)) (i + 1))) k_ =
  some (.normal, k_, [(decide (((i : Nat) : Int) < ((s.size : Nat) : Int))) = true, 0 ≤ ((i : Nat) : Int) ∧ ((i : Nat) : Int) < ((s.size : Nat) : Int), (strAt s ((i : Nat) : Int) == 45) = false, wd = false, 0 ≤ IntKind.i64.wrap (((i : Nat) : Int) + 1) ∧ IntKind.i64.wrap (((i : Nat) : Int) + 1) ≤ ((s.size : Nat) : Int), 0 ≤ ((i : Nat) : Int) ∧ ((i : Nat) : Int) ≤ (((IntKind.i64.wrap (((i : Nat) : Int) + 1) : Int).toNat : Nat) : Int), ((t.size + (s.extract (((i : Nat) : Int) : Int).toNat (IntKind.i64.wrap (((i : Nat) : Int) + 1) : Int).toNat).size : Nat) : Int) ≤ IntKind.i64.max, 0 ≤ ((i : Nat) : Int) ∧ ((i : Nat) : Int) < ((s.size : Nat) : Int), (strAt s ((i : Nat) : Int) == 45) = false, (((i : Nat) : Int) == 0) = true, (decide (n ≥ 0)) = false, (.int .i64 (IntKind.i64.wrap (((i : Nat) : Int) + 1)) : Value) = .int .i64 ((i + 1 : Nat) : Int), (.string (t ++ (s.extract (((i : Nat) : Int) : Int).toNat (IntKind.i64.wrap (((i : Nat) : Int) + 1) : Int).toNat)) : Value) = .string (t ++ (s.extract (((i : Nat) : Int) : Int).toNat (IntKind.i64.wrap (((i : Nat) : Int) + 1) : Int).toNat)), (.int .i64 n : Value) = .int .i64 n, (.bool wd : Value) = .bool wd, (.int .i64 z : Value) = .int .i64 z, (.int .i32 c : Value) = .int .i32 c, (.int .i64 a : Value) = .int .i64 a, (.bool false : Value) = .bool false, (.string s : Value) = .string s]) := by kernel_rfl
theorem wz_w5_ok (n : Int) (wd : Bool) (z c a : Int) (s : ByteArray) (t : ByteArray) (i : Nat) (q0 : (decide (((i : Nat) : Int) < ((s.size : Nat) : Int))) = true) (q1 : (strAt s ((i : Nat) : Int) == 45) = false) (q2 : (wd) = false) (q3 : (((i : Nat) : Int) == 0) = true) (q4 : (decide (n ≥ 0)) = false) (x0 : 0 ≤ ((i : Nat) : Int) ∧ ((i : Nat) : Int) < ((s.size : Nat) : Int)) (x1 : 0 ≤ IntKind.i64.wrap (((i : Nat) : Int) + 1) ∧ IntKind.i64.wrap (((i : Nat) : Int) + 1) ≤ ((s.size : Nat) : Int)) (x2 : 0 ≤ ((i : Nat) : Int) ∧ ((i : Nat) : Int) ≤ (((IntKind.i64.wrap (((i : Nat) : Int) + 1) : Int).toNat : Nat) : Int)) (x3 : ((t.size + (s.extract (((i : Nat) : Int) : Int).toNat (IntKind.i64.wrap (((i : Nat) : Int) + 1) : Int).toNat).size : Nat) : Int) ≤ IntKind.i64.max) (x4 : 0 ≤ ((i : Nat) : Int) ∧ ((i : Nat) : Int) < ((s.size : Nat) : Int)) (x5 : (.int .i64 (IntKind.i64.wrap (((i : Nat) : Int) + 1)) : Value) = .int .i64 ((i + 1 : Nat) : Int)) {good : Out → St → Prop} (hg : ∀ S1, Keeps S1 (wz_st n wd z c a s (t ++ (s.extract (((i : Nat) : Int) : Int).toNat (IntKind.i64.wrap (((i : Nat) : Int) + 1) : Int).toNat)) (i + 1)) → good .normal S1) : StepTo P ZN 1 196 wz_b (wz_st n wd z c a s t i) good :=
  step_run (wz_w5 n wd z c a s t i) (ps_cons q0 (ps_cons x0 (ps_cons q1 (ps_cons q2 (ps_cons x1 (ps_cons x2 (ps_cons x3 (ps_cons x4 (ps_cons q1 (ps_cons q3 (ps_cons q4 (ps_cons x5 (ps_cons rfl (ps_cons rfl (ps_cons rfl (ps_cons rfl (ps_cons rfl (ps_cons rfl (ps_cons rfl (ps_cons rfl ps_nil)))))))))))))))))))) rfl hg
theorem wz_w6 (n : Int) (wd : Bool) (z c a : Int) (s : ByteArray) (t : ByteArray) (i : Nat) (k_ : Nat) : stepF P ZN 1 196 wz_b (wz_st n wd z c a s t i) (.b true :: (.b false :: (.b false :: (.b false :: (.b true :: (.b true :: (.b false :: []))))))) 1000 (fun _ => some (wz_st n wd z c a s (t ++ (s.extract (((i : Nat) : Int) : Int).toNat (IntKind.i64.wrap (((i : Nat) : Int) + 1) : Int).toNat)) (i + 1))) k_ =
  some (.normal, k_, [(decide (((i : Nat) : Int) < ((s.size : Nat) : Int))) = true, 0 ≤ ((i : Nat) : Int) ∧ ((i : Nat) : Int) < ((s.size : Nat) : Int), (strAt s ((i : Nat) : Int) == 45) = false, wd = false, 0 ≤ IntKind.i64.wrap (((i : Nat) : Int) + 1) ∧ IntKind.i64.wrap (((i : Nat) : Int) + 1) ≤ ((s.size : Nat) : Int), 0 ≤ ((i : Nat) : Int) ∧ ((i : Nat) : Int) ≤ (((IntKind.i64.wrap (((i : Nat) : Int) + 1) : Int).toNat : Nat) : Int), ((t.size + (s.extract (((i : Nat) : Int) : Int).toNat (IntKind.i64.wrap (((i : Nat) : Int) + 1) : Int).toNat).size : Nat) : Int) ≤ IntKind.i64.max, 0 ≤ ((i : Nat) : Int) ∧ ((i : Nat) : Int) < ((s.size : Nat) : Int), (strAt s ((i : Nat) : Int) == 45) = false, (((i : Nat) : Int) == 0) = true, (decide (n ≥ 0)) = true, (z == 1) = false, (.int .i64 (IntKind.i64.wrap (((i : Nat) : Int) + 1)) : Value) = .int .i64 ((i + 1 : Nat) : Int), (.string (t ++ (s.extract (((i : Nat) : Int) : Int).toNat (IntKind.i64.wrap (((i : Nat) : Int) + 1) : Int).toNat)) : Value) = .string (t ++ (s.extract (((i : Nat) : Int) : Int).toNat (IntKind.i64.wrap (((i : Nat) : Int) + 1) : Int).toNat)), (.int .i64 n : Value) = .int .i64 n, (.bool wd : Value) = .bool wd, (.int .i64 z : Value) = .int .i64 z, (.int .i32 c : Value) = .int .i32 c, (.int .i64 a : Value) = .int .i64 a, (.bool false : Value) = .bool false, (.string s : Value) = .string s]) := by kernel_rfl
theorem wz_w6_ok (n : Int) (wd : Bool) (z c a : Int) (s : ByteArray) (t : ByteArray) (i : Nat) (q0 : (decide (((i : Nat) : Int) < ((s.size : Nat) : Int))) = true) (q1 : (strAt s ((i : Nat) : Int) == 45) = false) (q2 : (wd) = false) (q3 : (((i : Nat) : Int) == 0) = true) (q4 : (decide (n ≥ 0)) = true) (q5 : (z == 1) = false) (x0 : 0 ≤ ((i : Nat) : Int) ∧ ((i : Nat) : Int) < ((s.size : Nat) : Int)) (x1 : 0 ≤ IntKind.i64.wrap (((i : Nat) : Int) + 1) ∧ IntKind.i64.wrap (((i : Nat) : Int) + 1) ≤ ((s.size : Nat) : Int)) (x2 : 0 ≤ ((i : Nat) : Int) ∧ ((i : Nat) : Int) ≤ (((IntKind.i64.wrap (((i : Nat) : Int) + 1) : Int).toNat : Nat) : Int)) (x3 : ((t.size + (s.extract (((i : Nat) : Int) : Int).toNat (IntKind.i64.wrap (((i : Nat) : Int) + 1) : Int).toNat).size : Nat) : Int) ≤ IntKind.i64.max) (x4 : 0 ≤ ((i : Nat) : Int) ∧ ((i : Nat) : Int) < ((s.size : Nat) : Int)) (x5 : (.int .i64 (IntKind.i64.wrap (((i : Nat) : Int) + 1)) : Value) = .int .i64 ((i + 1 : Nat) : Int)) {good : Out → St → Prop} (hg : ∀ S1, Keeps S1 (wz_st n wd z c a s (t ++ (s.extract (((i : Nat) : Int) : Int).toNat (IntKind.i64.wrap (((i : Nat) : Int) + 1) : Int).toNat)) (i + 1)) → good .normal S1) : StepTo P ZN 1 196 wz_b (wz_st n wd z c a s t i) good :=
  step_run (wz_w6 n wd z c a s t i) (ps_cons q0 (ps_cons x0 (ps_cons q1 (ps_cons q2 (ps_cons x1 (ps_cons x2 (ps_cons x3 (ps_cons x4 (ps_cons q1 (ps_cons q3 (ps_cons q4 (ps_cons q5 (ps_cons x5 (ps_cons rfl (ps_cons rfl (ps_cons rfl (ps_cons rfl (ps_cons rfl (ps_cons rfl (ps_cons rfl (ps_cons rfl ps_nil))))))))))))))))))))) rfl hg
theorem wz_w7 (n : Int) (wd : Bool) (z c a : Int) (s : ByteArray) (t : ByteArray) (i : Nat) (k_ : Nat) : stepF P ZN 1 196 wz_b (wz_st n wd z c a s t i) (.b true :: (.b false :: (.b false :: (.b false :: (.b true :: (.b true :: (.b true :: (.b false :: [])))))))) 1000 (fun _ => some (wz_st n wd z c a s (t ++ (s.extract (((i : Nat) : Int) : Int).toNat (IntKind.i64.wrap (((i : Nat) : Int) + 1) : Int).toNat)) (i + 1))) k_ =
  some (.normal, k_, [(decide (((i : Nat) : Int) < ((s.size : Nat) : Int))) = true, 0 ≤ ((i : Nat) : Int) ∧ ((i : Nat) : Int) < ((s.size : Nat) : Int), (strAt s ((i : Nat) : Int) == 45) = false, wd = false, 0 ≤ IntKind.i64.wrap (((i : Nat) : Int) + 1) ∧ IntKind.i64.wrap (((i : Nat) : Int) + 1) ≤ ((s.size : Nat) : Int), 0 ≤ ((i : Nat) : Int) ∧ ((i : Nat) : Int) ≤ (((IntKind.i64.wrap (((i : Nat) : Int) + 1) : Int).toNat : Nat) : Int), ((t.size + (s.extract (((i : Nat) : Int) : Int).toNat (IntKind.i64.wrap (((i : Nat) : Int) + 1) : Int).toNat).size : Nat) : Int) ≤ IntKind.i64.max, 0 ≤ ((i : Nat) : Int) ∧ ((i : Nat) : Int) < ((s.size : Nat) : Int), (strAt s ((i : Nat) : Int) == 45) = false, (((i : Nat) : Int) == 0) = true, (decide (n ≥ 0)) = true, (z == 1) = true, (decide (((s.size : Nat) : Int) < 19)) = false, (.int .i64 (IntKind.i64.wrap (((i : Nat) : Int) + 1)) : Value) = .int .i64 ((i + 1 : Nat) : Int), (.string (t ++ (s.extract (((i : Nat) : Int) : Int).toNat (IntKind.i64.wrap (((i : Nat) : Int) + 1) : Int).toNat)) : Value) = .string (t ++ (s.extract (((i : Nat) : Int) : Int).toNat (IntKind.i64.wrap (((i : Nat) : Int) + 1) : Int).toNat)), (.int .i64 n : Value) = .int .i64 n, (.bool wd : Value) = .bool wd, (.int .i64 z : Value) = .int .i64 z, (.int .i32 c : Value) = .int .i32 c, (.int .i64 a : Value) = .int .i64 a, (.bool false : Value) = .bool false, (.string s : Value) = .string s]) := by kernel_rfl
theorem wz_w7_ok (n : Int) (wd : Bool) (z c a : Int) (s : ByteArray) (t : ByteArray) (i : Nat) (q0 : (decide (((i : Nat) : Int) < ((s.size : Nat) : Int))) = true) (q1 : (strAt s ((i : Nat) : Int) == 45) = false) (q2 : (wd) = false) (q3 : (((i : Nat) : Int) == 0) = true) (q4 : (decide (n ≥ 0)) = true) (q5 : (z == 1) = true) (q6 : (decide (((s.size : Nat) : Int) < 19)) = false) (x0 : 0 ≤ ((i : Nat) : Int) ∧ ((i : Nat) : Int) < ((s.size : Nat) : Int)) (x1 : 0 ≤ IntKind.i64.wrap (((i : Nat) : Int) + 1) ∧ IntKind.i64.wrap (((i : Nat) : Int) + 1) ≤ ((s.size : Nat) : Int)) (x2 : 0 ≤ ((i : Nat) : Int) ∧ ((i : Nat) : Int) ≤ (((IntKind.i64.wrap (((i : Nat) : Int) + 1) : Int).toNat : Nat) : Int)) (x3 : ((t.size + (s.extract (((i : Nat) : Int) : Int).toNat (IntKind.i64.wrap (((i : Nat) : Int) + 1) : Int).toNat).size : Nat) : Int) ≤ IntKind.i64.max) (x4 : 0 ≤ ((i : Nat) : Int) ∧ ((i : Nat) : Int) < ((s.size : Nat) : Int)) (x5 : (.int .i64 (IntKind.i64.wrap (((i : Nat) : Int) + 1)) : Value) = .int .i64 ((i + 1 : Nat) : Int)) {good : Out → St → Prop} (hg : ∀ S1, Keeps S1 (wz_st n wd z c a s (t ++ (s.extract (((i : Nat) : Int) : Int).toNat (IntKind.i64.wrap (((i : Nat) : Int) + 1) : Int).toNat)) (i + 1)) → good .normal S1) : StepTo P ZN 1 196 wz_b (wz_st n wd z c a s t i) good :=
  step_run (wz_w7 n wd z c a s t i) (ps_cons q0 (ps_cons x0 (ps_cons q1 (ps_cons q2 (ps_cons x1 (ps_cons x2 (ps_cons x3 (ps_cons x4 (ps_cons q1 (ps_cons q3 (ps_cons q4 (ps_cons q5 (ps_cons q6 (ps_cons x5 (ps_cons rfl (ps_cons rfl (ps_cons rfl (ps_cons rfl (ps_cons rfl (ps_cons rfl (ps_cons rfl (ps_cons rfl ps_nil)))))))))))))))))))))) rfl hg
theorem wz_w8 (n : Int) (wd : Bool) (z c a : Int) (s : ByteArray) (t : ByteArray) (i : Nat) (k_ : Nat) : stepF P ZN 1 196 wz_b (wz_st n wd z c a s t i) (.b true :: (.b false :: (.b true :: (.lit :: (.b false :: (.b false :: [])))))) 1000 (fun _ => some (wz_st n wd z c a s (t ++ (wT (strAt s ((i : Nat) : Int)))) (i + 1))) k_ =
  some (.normal, k_, [(decide (((i : Nat) : Int) < ((s.size : Nat) : Int))) = true, 0 ≤ ((i : Nat) : Int) ∧ ((i : Nat) : Int) < ((s.size : Nat) : Int), (strAt s ((i : Nat) : Int) == 45) = false, wd = true, 0 ≤ ((i : Nat) : Int) ∧ ((i : Nat) : Int) < ((s.size : Nat) : Int), ((t.size + (wT (strAt s ((i : Nat) : Int))).size : Nat) : Int) ≤ IntKind.i64.max, 0 ≤ ((i : Nat) : Int) ∧ ((i : Nat) : Int) < ((s.size : Nat) : Int), (strAt s ((i : Nat) : Int) == 45) = false, (((i : Nat) : Int) == 0) = false, (.int .i64 (IntKind.i64.wrap (((i : Nat) : Int) + 1)) : Value) = .int .i64 ((i + 1 : Nat) : Int), (.string (t ++ (wT (strAt s ((i : Nat) : Int)))) : Value) = .string (t ++ (wT (strAt s ((i : Nat) : Int)))), (.int .i64 n : Value) = .int .i64 n, (.bool wd : Value) = .bool wd, (.int .i64 z : Value) = .int .i64 z, (.int .i32 c : Value) = .int .i32 c, (.int .i64 a : Value) = .int .i64 a, (.bool false : Value) = .bool false, (.string s : Value) = .string s]) := by kernel_rfl
theorem wz_w8_ok (n : Int) (wd : Bool) (z c a : Int) (s : ByteArray) (t : ByteArray) (i : Nat) (q0 : (decide (((i : Nat) : Int) < ((s.size : Nat) : Int))) = true) (q1 : (strAt s ((i : Nat) : Int) == 45) = false) (q2 : (wd) = true) (q3 : (((i : Nat) : Int) == 0) = false) (x0 : 0 ≤ ((i : Nat) : Int) ∧ ((i : Nat) : Int) < ((s.size : Nat) : Int)) (x1 : 0 ≤ ((i : Nat) : Int) ∧ ((i : Nat) : Int) < ((s.size : Nat) : Int)) (x2 : ((t.size + (wT (strAt s ((i : Nat) : Int))).size : Nat) : Int) ≤ IntKind.i64.max) (x3 : 0 ≤ ((i : Nat) : Int) ∧ ((i : Nat) : Int) < ((s.size : Nat) : Int)) (x4 : (.int .i64 (IntKind.i64.wrap (((i : Nat) : Int) + 1)) : Value) = .int .i64 ((i + 1 : Nat) : Int)) {good : Out → St → Prop} (hg : ∀ S1, Keeps S1 (wz_st n wd z c a s (t ++ (wT (strAt s ((i : Nat) : Int)))) (i + 1)) → good .normal S1) : StepTo P ZN 1 196 wz_b (wz_st n wd z c a s t i) good :=
  step_run (wz_w8 n wd z c a s t i) (ps_cons q0 (ps_cons x0 (ps_cons q1 (ps_cons q2 (ps_cons x1 (ps_cons x2 (ps_cons x3 (ps_cons q1 (ps_cons q3 (ps_cons x4 (ps_cons rfl (ps_cons rfl (ps_cons rfl (ps_cons rfl (ps_cons rfl (ps_cons rfl (ps_cons rfl (ps_cons rfl ps_nil)))))))))))))))))) rfl hg
theorem wz_w9 (n : Int) (wd : Bool) (z c a : Int) (s : ByteArray) (t : ByteArray) (i : Nat) (k_ : Nat) : stepF P ZN 1 196 wz_b (wz_st n wd z c a s t i) (.b true :: (.b false :: (.b true :: (.lit :: (.b false :: (.b true :: (.b false :: []))))))) 1000 (fun _ => some (wz_st n wd z c a s (t ++ (wT (strAt s ((i : Nat) : Int)))) (i + 1))) k_ =
  some (.normal, k_, [(decide (((i : Nat) : Int) < ((s.size : Nat) : Int))) = true, 0 ≤ ((i : Nat) : Int) ∧ ((i : Nat) : Int) < ((s.size : Nat) : Int), (strAt s ((i : Nat) : Int) == 45) = false, wd = true, 0 ≤ ((i : Nat) : Int) ∧ ((i : Nat) : Int) < ((s.size : Nat) : Int), ((t.size + (wT (strAt s ((i : Nat) : Int))).size : Nat) : Int) ≤ IntKind.i64.max, 0 ≤ ((i : Nat) : Int) ∧ ((i : Nat) : Int) < ((s.size : Nat) : Int), (strAt s ((i : Nat) : Int) == 45) = false, (((i : Nat) : Int) == 0) = true, (decide (n ≥ 0)) = false, (.int .i64 (IntKind.i64.wrap (((i : Nat) : Int) + 1)) : Value) = .int .i64 ((i + 1 : Nat) : Int), (.string (t ++ (wT (strAt s ((i : Nat) : Int)))) : Value) = .string (t ++ (wT (strAt s ((i : Nat) : Int)))), (.int .i64 n : Value) = .int .i64 n, (.bool wd : Value) = .bool wd, (.int .i64 z : Value) = .int .i64 z, (.int .i32 c : Value) = .int .i32 c, (.int .i64 a : Value) = .int .i64 a, (.bool false : Value) = .bool false, (.string s : Value) = .string s]) := by kernel_rfl
theorem wz_w9_ok (n : Int) (wd : Bool) (z c a : Int) (s : ByteArray) (t : ByteArray) (i : Nat) (q0 : (decide (((i : Nat) : Int) < ((s.size : Nat) : Int))) = true) (q1 : (strAt s ((i : Nat) : Int) == 45) = false) (q2 : (wd) = true) (q3 : (((i : Nat) : Int) == 0) = true) (q4 : (decide (n ≥ 0)) = false) (x0 : 0 ≤ ((i : Nat) : Int) ∧ ((i : Nat) : Int) < ((s.size : Nat) : Int)) (x1 : 0 ≤ ((i : Nat) : Int) ∧ ((i : Nat) : Int) < ((s.size : Nat) : Int)) (x2 : ((t.size + (wT (strAt s ((i : Nat) : Int))).size : Nat) : Int) ≤ IntKind.i64.max) (x3 : 0 ≤ ((i : Nat) : Int) ∧ ((i : Nat) : Int) < ((s.size : Nat) : Int)) (x4 : (.int .i64 (IntKind.i64.wrap (((i : Nat) : Int) + 1)) : Value) = .int .i64 ((i + 1 : Nat) : Int)) {good : Out → St → Prop} (hg : ∀ S1, Keeps S1 (wz_st n wd z c a s (t ++ (wT (strAt s ((i : Nat) : Int)))) (i + 1)) → good .normal S1) : StepTo P ZN 1 196 wz_b (wz_st n wd z c a s t i) good :=
  step_run (wz_w9 n wd z c a s t i) (ps_cons q0 (ps_cons x0 (ps_cons q1 (ps_cons q2 (ps_cons x1 (ps_cons x2 (ps_cons x3 (ps_cons q1 (ps_cons q3 (ps_cons q4 (ps_cons x4 (ps_cons rfl (ps_cons rfl (ps_cons rfl (ps_cons rfl (ps_cons rfl (ps_cons rfl (ps_cons rfl (ps_cons rfl ps_nil))))))))))))))))))) rfl hg
theorem wz_w10 (n : Int) (wd : Bool) (z c a : Int) (s : ByteArray) (t : ByteArray) (i : Nat) (k_ : Nat) : stepF P ZN 1 196 wz_b (wz_st n wd z c a s t i) (.b true :: (.b false :: (.b true :: (.lit :: (.b false :: (.b true :: (.b true :: (.b false :: [])))))))) 1000 (fun _ => some (wz_st n wd z c a s (t ++ (wT (strAt s ((i : Nat) : Int)))) (i + 1))) k_ =
  some (.normal, k_, [(decide (((i : Nat) : Int) < ((s.size : Nat) : Int))) = true, 0 ≤ ((i : Nat) : Int) ∧ ((i : Nat) : Int) < ((s.size : Nat) : Int), (strAt s ((i : Nat) : Int) == 45) = false, wd = true, 0 ≤ ((i : Nat) : Int) ∧ ((i : Nat) : Int) < ((s.size : Nat) : Int), ((t.size + (wT (strAt s ((i : Nat) : Int))).size : Nat) : Int) ≤ IntKind.i64.max, 0 ≤ ((i : Nat) : Int) ∧ ((i : Nat) : Int) < ((s.size : Nat) : Int), (strAt s ((i : Nat) : Int) == 45) = false, (((i : Nat) : Int) == 0) = true, (decide (n ≥ 0)) = true, (z == 1) = false, (.int .i64 (IntKind.i64.wrap (((i : Nat) : Int) + 1)) : Value) = .int .i64 ((i + 1 : Nat) : Int), (.string (t ++ (wT (strAt s ((i : Nat) : Int)))) : Value) = .string (t ++ (wT (strAt s ((i : Nat) : Int)))), (.int .i64 n : Value) = .int .i64 n, (.bool wd : Value) = .bool wd, (.int .i64 z : Value) = .int .i64 z, (.int .i32 c : Value) = .int .i32 c, (.int .i64 a : Value) = .int .i64 a, (.bool false : Value) = .bool false, (.string s : Value) = .string s]) := by kernel_rfl
theorem wz_w10_ok (n : Int) (wd : Bool) (z c a : Int) (s : ByteArray) (t : ByteArray) (i : Nat) (q0 : (decide (((i : Nat) : Int) < ((s.size : Nat) : Int))) = true) (q1 : (strAt s ((i : Nat) : Int) == 45) = false) (q2 : (wd) = true) (q3 : (((i : Nat) : Int) == 0) = true) (q4 : (decide (n ≥ 0)) = true) (q5 : (z == 1) = false) (x0 : 0 ≤ ((i : Nat) : Int) ∧ ((i : Nat) : Int) < ((s.size : Nat) : Int)) (x1 : 0 ≤ ((i : Nat) : Int) ∧ ((i : Nat) : Int) < ((s.size : Nat) : Int)) (x2 : ((t.size + (wT (strAt s ((i : Nat) : Int))).size : Nat) : Int) ≤ IntKind.i64.max) (x3 : 0 ≤ ((i : Nat) : Int) ∧ ((i : Nat) : Int) < ((s.size : Nat) : Int)) (x4 : (.int .i64 (IntKind.i64.wrap (((i : Nat) : Int) + 1)) : Value) = .int .i64 ((i + 1 : Nat) : Int)) {good : Out → St → Prop} (hg : ∀ S1, Keeps S1 (wz_st n wd z c a s (t ++ (wT (strAt s ((i : Nat) : Int)))) (i + 1)) → good .normal S1) : StepTo P ZN 1 196 wz_b (wz_st n wd z c a s t i) good :=
  step_run (wz_w10 n wd z c a s t i) (ps_cons q0 (ps_cons x0 (ps_cons q1 (ps_cons q2 (ps_cons x1 (ps_cons x2 (ps_cons x3 (ps_cons q1 (ps_cons q3 (ps_cons q4 (ps_cons q5 (ps_cons x4 (ps_cons rfl (ps_cons rfl (ps_cons rfl (ps_cons rfl (ps_cons rfl (ps_cons rfl (ps_cons rfl (ps_cons rfl ps_nil)))))))))))))))))))) rfl hg
theorem wz_w11 (n : Int) (wd : Bool) (z c a : Int) (s : ByteArray) (t : ByteArray) (i : Nat) (k_ : Nat) : stepF P ZN 1 196 wz_b (wz_st n wd z c a s t i) (.b true :: (.b false :: (.b true :: (.lit :: (.b false :: (.b true :: (.b true :: (.b true :: (.b false :: []))))))))) 1000 (fun _ => some (wz_st n wd z c a s (t ++ (wT (strAt s ((i : Nat) : Int)))) (i + 1))) k_ =
  some (.normal, k_, [(decide (((i : Nat) : Int) < ((s.size : Nat) : Int))) = true, 0 ≤ ((i : Nat) : Int) ∧ ((i : Nat) : Int) < ((s.size : Nat) : Int), (strAt s ((i : Nat) : Int) == 45) = false, wd = true, 0 ≤ ((i : Nat) : Int) ∧ ((i : Nat) : Int) < ((s.size : Nat) : Int), ((t.size + (wT (strAt s ((i : Nat) : Int))).size : Nat) : Int) ≤ IntKind.i64.max, 0 ≤ ((i : Nat) : Int) ∧ ((i : Nat) : Int) < ((s.size : Nat) : Int), (strAt s ((i : Nat) : Int) == 45) = false, (((i : Nat) : Int) == 0) = true, (decide (n ≥ 0)) = true, (z == 1) = true, (decide (((s.size : Nat) : Int) < 19)) = false, (.int .i64 (IntKind.i64.wrap (((i : Nat) : Int) + 1)) : Value) = .int .i64 ((i + 1 : Nat) : Int), (.string (t ++ (wT (strAt s ((i : Nat) : Int)))) : Value) = .string (t ++ (wT (strAt s ((i : Nat) : Int)))), (.int .i64 n : Value) = .int .i64 n, (.bool wd : Value) = .bool wd, (.int .i64 z : Value) = .int .i64 z, (.int .i32 c : Value) = .int .i32 c, (.int .i64 a : Value) = .int .i64 a, (.bool false : Value) = .bool false, (.string s : Value) = .string s]) := by kernel_rfl
theorem wz_w11_ok (n : Int) (wd : Bool) (z c a : Int) (s : ByteArray) (t : ByteArray) (i : Nat) (q0 : (decide (((i : Nat) : Int) < ((s.size : Nat) : Int))) = true) (q1 : (strAt s ((i : Nat) : Int) == 45) = false) (q2 : (wd) = true) (q3 : (((i : Nat) : Int) == 0) = true) (q4 : (decide (n ≥ 0)) = true) (q5 : (z == 1) = true) (q6 : (decide (((s.size : Nat) : Int) < 19)) = false) (x0 : 0 ≤ ((i : Nat) : Int) ∧ ((i : Nat) : Int) < ((s.size : Nat) : Int)) (x1 : 0 ≤ ((i : Nat) : Int) ∧ ((i : Nat) : Int) < ((s.size : Nat) : Int)) (x2 : ((t.size + (wT (strAt s ((i : Nat) : Int))).size : Nat) : Int) ≤ IntKind.i64.max) (x3 : 0 ≤ ((i : Nat) : Int) ∧ ((i : Nat) : Int) < ((s.size : Nat) : Int)) (x4 : (.int .i64 (IntKind.i64.wrap (((i : Nat) : Int) + 1)) : Value) = .int .i64 ((i + 1 : Nat) : Int)) {good : Out → St → Prop} (hg : ∀ S1, Keeps S1 (wz_st n wd z c a s (t ++ (wT (strAt s ((i : Nat) : Int)))) (i + 1)) → good .normal S1) : StepTo P ZN 1 196 wz_b (wz_st n wd z c a s t i) good :=
  step_run (wz_w11 n wd z c a s t i) (ps_cons q0 (ps_cons x0 (ps_cons q1 (ps_cons q2 (ps_cons x1 (ps_cons x2 (ps_cons x3 (ps_cons q1 (ps_cons q3 (ps_cons q4 (ps_cons q5 (ps_cons q6 (ps_cons x4 (ps_cons rfl (ps_cons rfl (ps_cons rfl (ps_cons rfl (ps_cons rfl (ps_cons rfl (ps_cons rfl (ps_cons rfl ps_nil))))))))))))))))))))) rfl hg
theorem wz_w12 (n : Int) (wd : Bool) (z c a : Int) (s : ByteArray) (t : ByteArray) (i : Nat) (k_ : Nat) : stepF P ZN 1 196 wz_b (wz_st n wd z c a s t i) (.b true :: (.b true :: (.b true :: (.lit :: (.lit :: (.b false :: [])))))) 1000 (fun _ => some (wz_st n wd z c a s (t ++ (⟨#[226, 136, 146]⟩ : ByteArray)) (i + 1))) k_ =
  some (.normal, k_, [(decide (((i : Nat) : Int) < ((s.size : Nat) : Int))) = true, 0 ≤ ((i : Nat) : Int) ∧ ((i : Nat) : Int) < ((s.size : Nat) : Int), (strAt s ((i : Nat) : Int) == 45) = true, ((t.size + (⟨#[226, 136, 146]⟩ : ByteArray).size : Nat) : Int) ≤ IntKind.i64.max, 0 ≤ ((i : Nat) : Int) ∧ ((i : Nat) : Int) < ((s.size : Nat) : Int), (strAt s ((i : Nat) : Int) == 45) = true, (z == 1) = false, (.int .i64 (IntKind.i64.wrap (((i : Nat) : Int) + 1)) : Value) = .int .i64 ((i + 1 : Nat) : Int), (.string (t ++ (⟨#[226, 136, 146]⟩ : ByteArray)) : Value) = .string (t ++ (⟨#[226, 136, 146]⟩ : ByteArray)), (.int .i64 n : Value) = .int .i64 n, (.bool wd : Value) = .bool wd, (.int .i64 z : Value) = .int .i64 z, (.int .i32 c : Value) = .int .i32 c, (.int .i64 a : Value) = .int .i64 a, (.bool false : Value) = .bool false, (.string s : Value) = .string s]) := by kernel_rfl
theorem wz_w12_ok (n : Int) (wd : Bool) (z c a : Int) (s : ByteArray) (t : ByteArray) (i : Nat) (q0 : (decide (((i : Nat) : Int) < ((s.size : Nat) : Int))) = true) (q1 : (strAt s ((i : Nat) : Int) == 45) = true) (q2 : (z == 1) = false) (x0 : 0 ≤ ((i : Nat) : Int) ∧ ((i : Nat) : Int) < ((s.size : Nat) : Int)) (x1 : ((t.size + (⟨#[226, 136, 146]⟩ : ByteArray).size : Nat) : Int) ≤ IntKind.i64.max) (x2 : 0 ≤ ((i : Nat) : Int) ∧ ((i : Nat) : Int) < ((s.size : Nat) : Int)) (x3 : (.int .i64 (IntKind.i64.wrap (((i : Nat) : Int) + 1)) : Value) = .int .i64 ((i + 1 : Nat) : Int)) {good : Out → St → Prop} (hg : ∀ S1, Keeps S1 (wz_st n wd z c a s (t ++ (⟨#[226, 136, 146]⟩ : ByteArray)) (i + 1)) → good .normal S1) : StepTo P ZN 1 196 wz_b (wz_st n wd z c a s t i) good :=
  step_run (wz_w12 n wd z c a s t i) (ps_cons q0 (ps_cons x0 (ps_cons q1 (ps_cons x1 (ps_cons x2 (ps_cons q1 (ps_cons q2 (ps_cons x3 (ps_cons rfl (ps_cons rfl (ps_cons rfl (ps_cons rfl (ps_cons rfl (ps_cons rfl (ps_cons rfl (ps_cons rfl ps_nil)))))))))))))))) rfl hg
theorem wz_w13 (n : Int) (wd : Bool) (z c a : Int) (s : ByteArray) (t : ByteArray) (i : Nat) (k_ : Nat) : stepF P ZN 1 196 wz_b (wz_st n wd z c a s t i) (.b true :: (.b true :: (.b true :: (.lit :: (.lit :: (.b true :: (.b false :: []))))))) 1000 (fun _ => some (wz_st n wd z c a s (t ++ (⟨#[226, 136, 146]⟩ : ByteArray)) (i + 1))) k_ =
  some (.normal, k_, [(decide (((i : Nat) : Int) < ((s.size : Nat) : Int))) = true, 0 ≤ ((i : Nat) : Int) ∧ ((i : Nat) : Int) < ((s.size : Nat) : Int), (strAt s ((i : Nat) : Int) == 45) = true, ((t.size + (⟨#[226, 136, 146]⟩ : ByteArray).size : Nat) : Int) ≤ IntKind.i64.max, 0 ≤ ((i : Nat) : Int) ∧ ((i : Nat) : Int) < ((s.size : Nat) : Int), (strAt s ((i : Nat) : Int) == 45) = true, (z == 1) = true, (decide (((s.size : Nat) : Int) < 19)) = false, (.int .i64 (IntKind.i64.wrap (((i : Nat) : Int) + 1)) : Value) = .int .i64 ((i + 1 : Nat) : Int), (.string (t ++ (⟨#[226, 136, 146]⟩ : ByteArray)) : Value) = .string (t ++ (⟨#[226, 136, 146]⟩ : ByteArray)), (.int .i64 n : Value) = .int .i64 n, (.bool wd : Value) = .bool wd, (.int .i64 z : Value) = .int .i64 z, (.int .i32 c : Value) = .int .i32 c, (.int .i64 a : Value) = .int .i64 a, (.bool false : Value) = .bool false, (.string s : Value) = .string s]) := by kernel_rfl
theorem wz_w13_ok (n : Int) (wd : Bool) (z c a : Int) (s : ByteArray) (t : ByteArray) (i : Nat) (q0 : (decide (((i : Nat) : Int) < ((s.size : Nat) : Int))) = true) (q1 : (strAt s ((i : Nat) : Int) == 45) = true) (q2 : (z == 1) = true) (q3 : (decide (((s.size : Nat) : Int) < 19)) = false) (x0 : 0 ≤ ((i : Nat) : Int) ∧ ((i : Nat) : Int) < ((s.size : Nat) : Int)) (x1 : ((t.size + (⟨#[226, 136, 146]⟩ : ByteArray).size : Nat) : Int) ≤ IntKind.i64.max) (x2 : 0 ≤ ((i : Nat) : Int) ∧ ((i : Nat) : Int) < ((s.size : Nat) : Int)) (x3 : (.int .i64 (IntKind.i64.wrap (((i : Nat) : Int) + 1)) : Value) = .int .i64 ((i + 1 : Nat) : Int)) {good : Out → St → Prop} (hg : ∀ S1, Keeps S1 (wz_st n wd z c a s (t ++ (⟨#[226, 136, 146]⟩ : ByteArray)) (i + 1)) → good .normal S1) : StepTo P ZN 1 196 wz_b (wz_st n wd z c a s t i) good :=
  step_run (wz_w13 n wd z c a s t i) (ps_cons q0 (ps_cons x0 (ps_cons q1 (ps_cons x1 (ps_cons x2 (ps_cons q1 (ps_cons q2 (ps_cons q3 (ps_cons x3 (ps_cons rfl (ps_cons rfl (ps_cons rfl (ps_cons rfl (ps_cons rfl (ps_cons rfl (ps_cons rfl (ps_cons rfl ps_nil))))))))))))))))) rfl hg
theorem wz_go (n : Int) (wd : Bool) (z c a : Int) (s : ByteArray) (hs : s.size ≤ 20) (i : Nat) (hi : i < s.size) {good : Out → St → Prop} (hg : ∀ S1, Keeps S1 (wz_st n wd z c a s (tN s n wd z (i + 1)) (i + 1)) → good .normal S1) : StepTo P ZN 1 196 wz_b (wz_st n wd z c a s (tN s n wd z i) i) good := by
  have e1 : IntKind.i64.wrap (((i : Nat) : Int) + 1) = ((i + 1 : Nat) : Int) := by rw [wr (by omega) (by omega)]; rfl
  have ht : (tN s n wd z i).size ≤ 400 := by have := tN_size s n wd z i; omega
  have hD : (s.extract (((i : Nat) : Int) : Int).toNat (IntKind.i64.wrap (((i : Nat) : Int) + 1) : Int).toNat).size ≤ 400 := by rw [size_ext]; omega
  have q0 : (decide (((i : Nat) : Int) < ((s.size : Nat) : Int))) = true := decide_eq_true (by omega)
  cases q1 : (strAt s ((i : Nat) : Int) == 45) with
  | true =>
    cases q2 : (z == 1) with
    | true =>
      cases q3 : (decide (((s.size : Nat) : Int) < 19)) with
      | true =>
        refine wz_w0_ok n wd z c a s _ i q0 q1 q2 q3 ⟨by omega, by omega⟩ (imx (sz1 (Nat.le_trans ht (by decide)) (by decide))) ⟨by omega, by omega⟩ (imx (sz1 (sz2 ht (by decide)) (by decide))) (congrArg (Value.int .i64) e1) fun S1 hk1 => hg S1 ?_
        have e : tN s n wd z (i + 1) = nxt _ _ _ _ _ _ _ _ _ _ _ := rfl
        rw [q1, q2, q3] at e
        rw [e]
        skip
        exact hk1
      | false =>
        refine wz_w13_ok n wd z c a s _ i q0 q1 q2 q3 ⟨by omega, by omega⟩ (imx (sz1 (Nat.le_trans ht (by decide)) (by decide))) ⟨by omega, by omega⟩ (congrArg (Value.int .i64) e1) fun S1 hk1 => hg S1 ?_
        have e : tN s n wd z (i + 1) = nxt _ _ _ _ _ _ _ _ _ _ _ := rfl
        rw [q1, q2, q3] at e
        rw [e]
        skip
        exact hk1
    | false =>
      refine wz_w12_ok n wd z c a s _ i q0 q1 q2 ⟨by omega, by omega⟩ (imx (sz1 (Nat.le_trans ht (by decide)) (by decide))) ⟨by omega, by omega⟩ (congrArg (Value.int .i64) e1) fun S1 hk1 => hg S1 ?_
      have e : tN s n wd z (i + 1) = nxt _ _ _ _ _ _ _ _ _ _ _ := rfl
      rw [q1, q2] at e
      rw [e]
      skip
      exact hk1
  | false =>
    cases q2 : (id wd) with
    | true =>
      cases q3 : (((i : Nat) : Int) == 0) with
      | true =>
        cases q4 : (decide (n ≥ 0)) with
        | true =>
          cases q5 : (z == 1) with
          | true =>
            cases q6 : (decide (((s.size : Nat) : Int) < 19)) with
            | true =>
              refine wz_w2_ok n wd z c a s _ i q0 q1 q2 q3 q4 q5 q6 ⟨by omega, by omega⟩ ⟨by omega, by omega⟩ (imx (sz1 (Nat.le_trans ht (by decide)) (show 3 ≤ 400 by decide))) ⟨by omega, by omega⟩ (imx (sz1 (sz2 ht (show 3 ≤ 400 by decide)) (by decide))) (congrArg (Value.int .i64) e1) fun S1 hk1 => hg S1 ?_
              have e : tN s n wd z (i + 1) = nxt _ _ _ _ _ _ _ _ _ _ _ := rfl
              rw [q1, q2, q3, q4, q5, q6] at e
              rw [e]
              skip
              exact hk1
            | false =>
              refine wz_w11_ok n wd z c a s _ i q0 q1 q2 q3 q4 q5 q6 ⟨by omega, by omega⟩ ⟨by omega, by omega⟩ (imx (sz1 (Nat.le_trans ht (by decide)) (show 3 ≤ 400 by decide))) ⟨by omega, by omega⟩ (congrArg (Value.int .i64) e1) fun S1 hk1 => hg S1 ?_
              have e : tN s n wd z (i + 1) = nxt _ _ _ _ _ _ _ _ _ _ _ := rfl
              rw [q1, q2, q3, q4, q5, q6] at e
              rw [e]
              skip
              exact hk1
          | false =>
            refine wz_w10_ok n wd z c a s _ i q0 q1 q2 q3 q4 q5 ⟨by omega, by omega⟩ ⟨by omega, by omega⟩ (imx (sz1 (Nat.le_trans ht (by decide)) (show 3 ≤ 400 by decide))) ⟨by omega, by omega⟩ (congrArg (Value.int .i64) e1) fun S1 hk1 => hg S1 ?_
            have e : tN s n wd z (i + 1) = nxt _ _ _ _ _ _ _ _ _ _ _ := rfl
            rw [q1, q2, q3, q4, q5] at e
            rw [e]
            skip
            exact hk1
        | false =>
          refine wz_w9_ok n wd z c a s _ i q0 q1 q2 q3 q4 ⟨by omega, by omega⟩ ⟨by omega, by omega⟩ (imx (sz1 (Nat.le_trans ht (by decide)) (show 3 ≤ 400 by decide))) ⟨by omega, by omega⟩ (congrArg (Value.int .i64) e1) fun S1 hk1 => hg S1 ?_
          have e : tN s n wd z (i + 1) = nxt _ _ _ _ _ _ _ _ _ _ _ := rfl
          rw [q1, q2, q3, q4] at e
          rw [e]
          skip
          exact hk1
      | false =>
        refine wz_w8_ok n wd z c a s _ i q0 q1 q2 q3 ⟨by omega, by omega⟩ ⟨by omega, by omega⟩ (imx (sz1 (Nat.le_trans ht (by decide)) (show 3 ≤ 400 by decide))) ⟨by omega, by omega⟩ (congrArg (Value.int .i64) e1) fun S1 hk1 => hg S1 ?_
        have e : tN s n wd z (i + 1) = nxt _ _ _ _ _ _ _ _ _ _ _ := rfl
        rw [q1, q2, q3] at e
        rw [e]
        skip
        exact hk1
    | false =>
      cases q3 : (((i : Nat) : Int) == 0) with
      | true =>
        cases q4 : (decide (n ≥ 0)) with
        | true =>
          cases q5 : (z == 1) with
          | true =>
            cases q6 : (decide (((s.size : Nat) : Int) < 19)) with
            | true =>
              refine wz_w3_ok n wd z c a s _ i q0 q1 q2 q3 q4 q5 q6 ⟨by omega, by omega⟩ (by rw [e1]; omega) (by rw [e1]; show (0 : Int) ≤ ((i : Nat) : Int) ∧ ((i : Nat) : Int) ≤ ((i + 1 : Nat) : Int); omega) (imx (sz1 (Nat.le_trans ht (by decide)) hD)) ⟨by omega, by omega⟩ (imx (sz1 (sz2 ht hD) (by decide))) (congrArg (Value.int .i64) e1) fun S1 hk1 => hg S1 ?_
              have e : tN s n wd z (i + 1) = nxt _ _ _ _ _ _ _ _ _ _ _ := rfl
              rw [q1, q2, q3, q4, q5, q6] at e
              rw [e]
              rw [e1] at hk1
              exact hk1
            | false =>
              refine wz_w7_ok n wd z c a s _ i q0 q1 q2 q3 q4 q5 q6 ⟨by omega, by omega⟩ (by rw [e1]; omega) (by rw [e1]; show (0 : Int) ≤ ((i : Nat) : Int) ∧ ((i : Nat) : Int) ≤ ((i + 1 : Nat) : Int); omega) (imx (sz1 (Nat.le_trans ht (by decide)) hD)) ⟨by omega, by omega⟩ (congrArg (Value.int .i64) e1) fun S1 hk1 => hg S1 ?_
              have e : tN s n wd z (i + 1) = nxt _ _ _ _ _ _ _ _ _ _ _ := rfl
              rw [q1, q2, q3, q4, q5, q6] at e
              rw [e]
              rw [e1] at hk1
              exact hk1
          | false =>
            refine wz_w6_ok n wd z c a s _ i q0 q1 q2 q3 q4 q5 ⟨by omega, by omega⟩ (by rw [e1]; omega) (by rw [e1]; show (0 : Int) ≤ ((i : Nat) : Int) ∧ ((i : Nat) : Int) ≤ ((i + 1 : Nat) : Int); omega) (imx (sz1 (Nat.le_trans ht (by decide)) hD)) ⟨by omega, by omega⟩ (congrArg (Value.int .i64) e1) fun S1 hk1 => hg S1 ?_
            have e : tN s n wd z (i + 1) = nxt _ _ _ _ _ _ _ _ _ _ _ := rfl
            rw [q1, q2, q3, q4, q5] at e
            rw [e]
            rw [e1] at hk1
            exact hk1
        | false =>
          refine wz_w5_ok n wd z c a s _ i q0 q1 q2 q3 q4 ⟨by omega, by omega⟩ (by rw [e1]; omega) (by rw [e1]; show (0 : Int) ≤ ((i : Nat) : Int) ∧ ((i : Nat) : Int) ≤ ((i + 1 : Nat) : Int); omega) (imx (sz1 (Nat.le_trans ht (by decide)) hD)) ⟨by omega, by omega⟩ (congrArg (Value.int .i64) e1) fun S1 hk1 => hg S1 ?_
          have e : tN s n wd z (i + 1) = nxt _ _ _ _ _ _ _ _ _ _ _ := rfl
          rw [q1, q2, q3, q4] at e
          rw [e]
          rw [e1] at hk1
          exact hk1
      | false =>
        refine wz_w4_ok n wd z c a s _ i q0 q1 q2 q3 ⟨by omega, by omega⟩ (by rw [e1]; omega) (by rw [e1]; show (0 : Int) ≤ ((i : Nat) : Int) ∧ ((i : Nat) : Int) ≤ ((i + 1 : Nat) : Int); omega) (imx (sz1 (Nat.le_trans ht (by decide)) hD)) ⟨by omega, by omega⟩ (congrArg (Value.int .i64) e1) fun S1 hk1 => hg S1 ?_
        have e : tN s n wd z (i + 1) = nxt _ _ _ _ _ _ _ _ _ _ _ := rfl
        rw [q1, q2, q3] at e
        rw [e]
        rw [e1] at hk1
        exact hk1
noncomputable def wz_all (n : Int) (wd : Bool) (z c a : Int) (s : ByteArray) (hs : s.size ≤ 20) : CodeC P :=
  loopC mo ZN (by rfl) 1 196 wz_b [] (fun i : Nat => wz_st n wd z c a s (tN s n wd z i) i) (fun i => i ≤ s.size) (fun i => s.size - i) (.exit 0) (wz_st n wd z c a s (tN s n wd z s.size) s.size) (by simp) (fun _ => rfl) rfl (fun _ => by kernel_rfl) (by kernel_rfl) [] (fun _ => rfl) rfl
    (fun i hi => by
      by_cases h : i < s.size
      · exact wz_go n wd z c a s hs i h fun S1 hk1 => .inl ⟨rfl, i + 1, h, by omega, hk1⟩
      · have e : i = s.size := by omega
        subst e
        exact wz_w1_ok n wd z c a s _ _ (decide_eq_false (by omega)) fun S1 hk1 => .inr ⟨rfl, hk1⟩) 0 (Nat.zero_le _)
theorem strAt_get {s : ByteArray} {i : Nat} (h : i < s.size) : strAt s ((i : Nat) : Int) = (((s.get! i).toNat : Nat) : Int) := by
  unfold strAt
  rw [show (((i : Nat) : Int) : Int).toNat = i from rfl, getElem?_pos s i h, get_data, Array.getElem?_eq_getElem (show i < s.data.size from h)]
  rfl
theorem wT_rs : ∀ d : Nat, d ≤ 9 → Rs (wT (((48 + d : Nat) : Nat) : Int)) [65296 + d]
  | 0, _ => rs_one (by kernel_rfl) (by kernel_rfl) (by decide)
  | 1, _ => rs_one (by kernel_rfl) (by kernel_rfl) (by decide)
  | 2, _ => rs_one (by kernel_rfl) (by kernel_rfl) (by decide)
  | 3, _ => rs_one (by kernel_rfl) (by kernel_rfl) (by decide)
  | 4, _ => rs_one (by kernel_rfl) (by kernel_rfl) (by decide)
  | 5, _ => rs_one (by kernel_rfl) (by kernel_rfl) (by decide)
  | 6, _ => rs_one (by kernel_rfl) (by kernel_rfl) (by decide)
  | 7, _ => rs_one (by kernel_rfl) (by kernel_rfl) (by decide)
  | 8, _ => rs_one (by kernel_rfl) (by kernel_rfl) (by decide)
  | 9, _ => rs_one (by kernel_rfl) (by kernel_rfl) (by decide)
  | d + 10, h => absurd h (by omega)
theorem m_rs : Rs ⟨#[226, 136, 146]⟩ [8722] := rs_one (by kernel_rfl) (by kernel_rfl) (by decide)
theorem z_rs : Rs ⟨#[48]⟩ [48] := rs_one (by kernel_rfl) (by kernel_rfl) (by decide)
def fw (wd : Bool) (b : UInt8) : Nat := if wd then 65248 + b.toNat else b.toNat
theorem pc_rs (n : Int) (wd : Bool) {i : Nat} (hi : i < (Lb n).length) (h0 : 48 ≤ ((Lb n)[i]).toNat) (h1 : ((Lb n)[i]).toNat ≤ 57) : Rs (bif wd then wT (strAt (ito n) ((i : Nat) : Int)) else (ito n).extract i (i + 1)) [fw wd ((Lb n)[i])] := by
  have hsz : i < (ito n).size := by rw [ito_size]; exact hi
  cases wd with
  | true =>
    rw [cond_true, strAt_get hsz, ito_get hi]
    have := wT_rs (((Lb n)[i]).toNat - 48) (by omega)
    rw [show 48 + (((Lb n)[i]).toNat - 48) = ((Lb n)[i]).toNat by omega] at this
    rw [show fw true ((Lb n)[i]) = 65296 + (((Lb n)[i]).toNat - 48) by show 65248 + _ = _; omega]
    exact this
  | false =>
    rw [cond_false]
    have ha := as_ext (ito_as n) i (i + 1)
    have hz : ((ito n).extract i (i + 1)).size = 1 := by rw [size_ext]; omega
    refine rs_one (by rw [as_cn ha, hz]) ?_ (by show ((Lb n)[i]).toNat ≠ 65533; omega)
    rw [as_rn ha (by omega), as_get (by omega), Nat.add_zero, ito_get hi]
    rfl
theorem lb_neg {n : Int} (h : n < 0) : Lb n = 45 :: Lib.decDigits n.natAbs := by
  unfold Lb
  rw [if_pos h]
  rfl
theorem lb_pos' {n : Int} (h : ¬ n < 0) : Lb n = Lib.decDigits n.natAbs := by
  unfold Lb
  rw [if_neg h]
  rfl
theorem tN_dig (n : Int) (wd : Bool) (z : Int) {i : Nat} {l : List Nat} (hl : Rs (tN (ito n) n wd z i) l) (hi : i < (Lb n).length) (h0 : 48 ≤ ((Lb n)[i]).toNat) (h1 : ((Lb n)[i]).toNat ≤ 57) (hx : (((((i : Nat) : Int) == 0) && decide (n ≥ 0)) && ((z == 1) && decide ((((ito n).size : Nat) : Int) < 19))) = false) :
    Rs (tN (ito n) n wd z (i + 1)) (l ++ [fw wd ((Lb n)[i])]) := by
  have hsz : i < (ito n).size := by rw [ito_size]; exact hi
  have ha : (strAt (ito n) ((i : Nat) : Int) == 45) = false := by
    rw [strAt_get hsz, ito_get hi, beq_eq_false_iff_ne]
    omega
  have e : tN (ito n) n wd z (i + 1) = tN (ito n) n wd z i ++ (bif wd then wT (strAt (ito n) ((i : Nat) : Int)) else (ito n).extract i (i + 1)) := by
    show nxt _ _ _ _ _ _ _ _ _ _ _ = _
    unfold nxt
    rw [ha, Bool.false_or, hx]
    rfl
  rw [e]
  exact rs_app hl (pc_rs n wd hi h0 h1)
theorem tN_neg {n : Int} (hn : n < 0) (wd : Bool) (z : Int) : ∀ k, k ≤ (Lib.decDigits n.natAbs).length → Rs (tN (ito n) n wd z (k + 1)) ([8722] ++ ((if ((z == 1) && decide ((((ito n).size : Nat) : Int) < 19)) = true then [48] else []) ++ ((Lib.decDigits n.natAbs).take k).map (fw wd)))
  | 0, _ => by
    have hsz : 0 < (ito n).size := by rw [ito_size]; exact lb_pos n
    have ha : (strAt (ito n) ((0 : Nat) : Int) == 45) = true := by
      have hl : (Lb n)[0]'(lb_pos n) = 45 := by simp only [lb_neg hn, List.getElem_cons_zero]
      rw [strAt_get hsz, ito_get (lb_pos n), hl]
      rfl
    have e : tN (ito n) n wd z 1 = bif ((z == 1) && decide ((((ito n).size : Nat) : Int) < 19)) then (ByteArray.empty ++ ⟨#[226, 136, 146]⟩) ++ ⟨#[48]⟩ else ByteArray.empty ++ ⟨#[226, 136, 146]⟩ := by
      show nxt _ _ _ _ _ _ _ _ _ _ _ = _
      unfold nxt
      rw [ha, Bool.true_or, Bool.true_and]
      rfl
    rw [e]
    cases ((z == 1) && decide ((((ito n).size : Nat) : Int) < 19)) with
    | true =>
      show Rs _ (([] ++ [8722]) ++ [48])
      exact rs_app (rs_app rs_nil m_rs) z_rs
    | false =>
      show Rs _ ([] ++ [8722])
      exact rs_app rs_nil m_rs
  | k + 1, hk => by
    have ih := tN_neg hn wd z k (by omega)
    have hi : k + 1 < (Lb n).length := by rw [lb_neg hn]; simp; omega
    have hb : (Lb n)[k + 1] = (Lib.decDigits n.natAbs)[k]'(by omega) := by simp only [lb_neg hn, List.getElem_cons_succ]
    have hd := dec_byte n.natAbs _ (List.getElem_mem (show k < (Lib.decDigits n.natAbs).length by omega))
    have := tN_dig n wd z ih hi (by rw [hb]; exact hd.1) (by rw [hb]; exact hd.2) (by rw [show (((k + 1 : Nat) : Int) == 0) = false by rw [beq_eq_false_iff_ne]; omega]; rfl)
    rw [hb] at this
    rw [List.take_succ_eq_append_getElem (show k < (Lib.decDigits n.natAbs).length by omega), List.map_append, List.map_cons, List.map_nil]
    simpa only [List.append_assoc] using this
theorem tN_pos {n : Int} (hn : ¬ n < 0) (wd : Bool) (z : Int) (hz : ((z == 1) && decide ((((ito n).size : Nat) : Int) < 19)) = false) : ∀ k, k ≤ (Lib.decDigits n.natAbs).length → Rs (tN (ito n) n wd z k) (((Lib.decDigits n.natAbs).take k).map (fw wd))
  | 0, _ => rs_nil
  | k + 1, hk => by
    have ih := tN_pos hn wd z hz k (by omega)
    have hi : k < (Lb n).length := by rw [lb_pos' hn]; omega
    have hb : (Lb n)[k] = (Lib.decDigits n.natAbs)[k]'(by omega) := by simp only [lb_pos' hn]
    have hd := dec_byte n.natAbs _ (List.getElem_mem (show k < (Lib.decDigits n.natAbs).length by omega))
    have := tN_dig n wd z ih hi (by rw [hb]; exact hd.1) (by rw [hb]; exact hd.2) (by rw [hz, Bool.and_false])
    rw [hb] at this
    rw [List.take_succ_eq_append_getElem (show k < (Lib.decDigits n.natAbs).length by omega), List.map_append, List.map_cons, List.map_nil]
    exact this
theorem dg_fw (wd : Bool) (u : Nat) : Dg ((Lib.decDigits u).map (fw wd)) (dgs u) := by
  cases wd with
  | true => exact dg_wide u
  | false => exact dg_dec u
theorem vl_zero (e : List Nat) : vl ([0] ++ e) = vl e := rfl
section
variable {n : Int} (h0 : -1152921504606846976 ≤ n) (h1 : n ≤ 1152921504606846976)
include h0 h1
theorem fin_neg (hn : n < 0) (wd : Bool) (z : Int) : nv (tN (ito n) n wd z (ito n).size) = (n, 0) := by
  have hs : (ito n).size = (Lib.decDigits n.natAbs).length + 1 := by rw [ito_size, lb_neg hn]; rfl
  have h := tN_neg hn wd z _ (Nat.le_refl _)
  rw [← hs, List.take_length] at h
  have h19 := dgs_19 (u := n.natAbs) (by omega)
  have hp := dgs_pos n.natAbs
  by_cases hz : ((z == 1) && decide ((((ito n).size : Nat) : Int) < 19)) = true
  · rw [if_pos hz] at h
    have := nt_nv (nt_mk (neg := true) (.inr rfl) h (dg_app dg_zero (dg_fw wd n.natAbs))) (by simp) (by simp; omega) (by rw [vl_zero, dgs_vl]; omega)
    rw [vl_zero, dgs_vl] at this
    rw [this]
    show (-((n.natAbs : Nat) : Int), (0 : Int)) = (n, 0)
    congr 1
    omega
  · rw [if_neg hz] at h
    have := nt_nv (nt_mk (neg := true) (.inr rfl) h (dg_app dg_nil (dg_fw wd n.natAbs))) (by simpa using hp) (by simp; omega) (by show vl (dgs n.natAbs) ≤ _; rw [dgs_vl]; omega)
    rw [this]
    show (-vl (dgs n.natAbs), (0 : Int)) = (n, 0)
    rw [dgs_vl]
    congr 1
    omega
theorem fin_pos (hn : ¬ n < 0) (wd : Bool) (z : Int) (hz : ((z == 1) && decide ((((ito n).size : Nat) : Int) < 19)) = false) : nv (tN (ito n) n wd z (ito n).size) = (n, 0) := by
  have hs : (ito n).size = (Lib.decDigits n.natAbs).length := by rw [ito_size, lb_pos' hn]
  have h := tN_pos hn wd z hz _ (Nat.le_refl _)
  rw [← hs, show ((Lib.decDigits n.natAbs).take (ito n).size) = Lib.decDigits n.natAbs by rw [hs, List.take_length]] at h
  have h19 := dgs_19 (u := n.natAbs) (by omega)
  have := nt_nv (nt_mk (neg := false) (m := 45) (.inl rfl) h (dg_fw wd n.natAbs)) (dgs_pos _) (by omega) (by rw [dgs_vl]; omega)
  rw [this]
  show (vl (dgs n.natAbs), (0 : Int)) = (n, 0)
  rw [dgs_vl]
  congr 1
  omega
theorem fin_zero (hn : ¬ n < 0) : nv ((⟨#[48]⟩ : ByteArray) ++ ito n) = (n, 0) := by
  have hr := ito_rs n
  rw [lb_pos' hn] at hr
  have h19 := dgs_19 (u := n.natAbs) (by omega)
  have hr2 : Rs ((⟨#[48]⟩ : ByteArray) ++ ito n) ((if false then [45] else []) ++ ([48] ++ (Lib.decDigits n.natAbs).map (·.toNat))) := by
    show Rs _ ([48] ++ (Lib.decDigits n.natAbs).map (·.toNat))
    exact rs_app z_rs hr
  have := nt_nv (nt_mk (neg := false) (m := 45) (.inl rfl) hr2 (dg_app dg_zero (dg_dec n.natAbs))) (by simp) (by simp; omega) (by rw [vl_zero, dgs_vl]; omega)
  rw [this]
  show (vl ([0] ++ dgs n.natAbs), (0 : Int)) = (n, 0)
  rw [vl_zero, dgs_vl]
  congr 1
  omega
theorem ito_20 : (ito n).size ≤ 20 := by
  have h19 := dgs_19 (u := n.natAbs) (by omega)
  rw [ito_size]
  unfold Lb
  rw [List.length_append]
  unfold dgs at h19
  rw [List.length_map] at h19
  split
  · show 1 + _ ≤ 20
    omega
  · show 0 + _ ≤ 20
    omega
end
end Go.Tx
