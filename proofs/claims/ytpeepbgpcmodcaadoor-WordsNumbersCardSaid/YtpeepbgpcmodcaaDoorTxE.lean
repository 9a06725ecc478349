/-
  Words: numbers. Printed by wdE.py.
-/
import Derived.Test.YtpeepbgpcmodcaaDoorTxD
set_option maxRecDepth 100000
namespace Go.Tx
open Go Go.RowKit Go.Sx Go.Proofs
noncomputable def Z5 : Env P := ⟨⟨[wd_c], [], []⟩, [], 10, []⟩
def mn (c : Int) : Bool := (c == 45) || (c == 8722)
def mi (s : ByteArray) : Bool := decide (0 < cn s) && mn (rn s 0)
def sk (s : ByteArray) (k : Nat) : Bool := (k == 0) && mi s
def ov (n d : Int) : Bool := decide (n > IntKind.i64.wrap ((IntKind.i64.wrap (1152921504606846976 - d)).tdiv 10))
def ad (n d : Int) : Int := IntKind.i64.wrap (IntKind.i64.wrap (10 * n) + d)
def nst (s : ByteArray) : Nat → Int × Bool × Nat
  | 0 => (0, false, 0)
  | k + 1 => if sk s k then nst s k else
      (if (nst s k).2.1 || ov (nst s k).1 (dg (rn s k)) then (nst s k).1 else ad (nst s k).1 (dg (rn s k)), (nst s k).2.1 || ov (nst s k).1 (dg (rn s k)), (nst s k).2.2 + 1)
def good (s : ByteArray) (k : Nat) : Bool := sk s k || decide (0 ≤ dg (rn s k))
theorem nst_le (s : ByteArray) : ∀ k, (nst s k).2.2 ≤ k
  | 0 => Nat.le_refl _
  | k + 1 => by
    have := nst_le s k
    simp only [nst]
    split
    · omega
    · dsimp only; omega
theorem nst_sk {s : ByteArray} {k : Nat} (h : sk s k = true) : nst s (k + 1) = nst s k := by
  rw [nst, if_pos h]
theorem nst_o {s : ByteArray} {k : Nat} (h : sk s k = false) (ho : (nst s k).2.1 = true) : nst s (k + 1) = ((nst s k).1, true, (nst s k).2.2 + 1) := by
  rw [nst, if_neg (by rw [h]; simp), ho]
  rfl
theorem nst_v {s : ByteArray} {k : Nat} (h : sk s k = false) (hv : ov (nst s k).1 (dg (rn s k)) = true) : nst s (k + 1) = ((nst s k).1, true, (nst s k).2.2 + 1) := by
  rw [nst, if_neg (by rw [h]; simp), hv, Bool.or_true]
  rfl
theorem nst_d {s : ByteArray} {k : Nat} (h : sk s k = false) (ho : (nst s k).2.1 = false) (hv : ov (nst s k).1 (dg (rn s k)) = false) : nst s (k + 1) = (ad (nst s k).1 (dg (rn s k)), false, (nst s k).2.2 + 1) := by
  rw [nst, if_neg (by rw [h]; simp), hv, ho]
  rfl
def mk (s : ByteArray) (k : Nat) : Bool := decide (0 < k) && mi s
noncomputable def wn_b : Code := bodyOf (innerOf P 11 0)
def wn_st (s : ByteArray) (n : Int) (m : Bool) (o : Bool) (y : Int) (e : Int) (p : Nat) : St := ⟨[(2, .v (.int .i64 n)), (4, .v (.bool m)), (5, .v (.bool o)), (6, .v (.int .i64 y)), (3, .v (.int .i64 e)), (12, .ptr 6 0)], [(6, (.iter s p, 0))], [], [6], []⟩
theorem wn_w0 (s : ByteArray) (n : Int) (m : Bool) (o : Bool) (y : Int) (e : Int) (p : Nat) (k_ : Nat) : stepF P Z5 1 64 wn_b (wn_st s n m o y e p) (.b true :: (.lit :: (.b true :: (.b true :: [])))) 1000 (fun _ => some (wn_st s n true o y e (p + (Utf8.decode s p).2))) k_ =
  some (.normal, k_, [p < s.size, ((p : Int) == 0) = true, (((Utf8.decode s p).1 : Int) == 45) = true, (.int .i64 n : Value) = .int .i64 n, (.bool true : Value) = .bool true, (.bool o : Value) = .bool o, (.int .i64 y : Value) = .int .i64 y, (.int .i64 e : Value) = .int .i64 e, (.ptr 6 0 : SV) = .ptr 6 0, s = s, p + (Utf8.decode s p).2 = p + (Utf8.decode s p).2]) := by kernel_rfl
theorem wn_w0_ok (s : ByteArray) (n : Int) (m : Bool) (o : Bool) (y : Int) (e : Int) (p : Nat) (q0 : p < s.size) (q1 : ((p : Int) == 0) = true) (q2 : (((Utf8.decode s p).1 : Int) == 45) = true)  {good : Out → St → Prop} (hg : ∀ S1, Keeps S1 (wn_st s n true o y e (p + (Utf8.decode s p).2)) → good .normal S1) : StepTo P Z5 1 64 wn_b (wn_st s n m o y e p) good :=
  step_run (wn_w0 s n m o y e p) (ps_cons q0 (ps_cons q1 (ps_cons q2 (ps_cons rfl (ps_cons rfl (ps_cons rfl (ps_cons rfl (ps_cons rfl (ps_cons rfl (ps_cons rfl (ps_cons rfl ps_nil))))))))))) rfl hg
theorem wn_w1 (s : ByteArray) (n : Int) (m : Bool) (o : Bool) (y : Int) (e : Int) (p : Nat) (k_ : Nat) : stepF P Z5 1 64 wn_b (wn_st s n m o y e p) (.b false :: []) 1000 (fun _ => some (wn_st s n m o y e p)) k_ =
  some ((.exit 0), k_, [¬ p < s.size, (.int .i64 n : Value) = .int .i64 n, (.bool m : Value) = .bool m, (.bool o : Value) = .bool o, (.int .i64 y : Value) = .int .i64 y, (.int .i64 e : Value) = .int .i64 e, (.ptr 6 0 : SV) = .ptr 6 0, s = s, p = p]) := by kernel_rfl
theorem wn_w1_ok (s : ByteArray) (n : Int) (m : Bool) (o : Bool) (y : Int) (e : Int) (p : Nat) (q0 : ¬ p < s.size)  {good : Out → St → Prop} (hg : ∀ S1, Keeps S1 (wn_st s n m o y e p) → good (.exit 0) S1) : StepTo P Z5 1 64 wn_b (wn_st s n m o y e p) good :=
  step_run (wn_w1 s n m o y e p) (ps_cons q0 (ps_cons rfl (ps_cons rfl (ps_cons rfl (ps_cons rfl (ps_cons rfl (ps_cons rfl (ps_cons rfl (ps_cons rfl ps_nil))))))))) rfl hg
theorem wn_w2 (s : ByteArray) (n : Int) (m : Bool) (o : Bool) (y : Int) (e : Int) (p : Nat) (k_ : Nat) : stepF P Z5 1 64 wn_b (wn_st s n m o y e p) (.b true :: (.lit :: (.b false :: (.lit :: (.lit :: (.b false :: (.b true :: []))))))) 1000 (fun _ => some (wn_st s n m true (IntKind.i64.wrap (y + 1)) e (p + (Utf8.decode s p).2))) k_ =
  some (.normal, k_, [p < s.size, ((p : Int) == 0) = false, rP [.int .i32 ((Utf8.decode s p).1 : Int)], (!(decide (0 ≤ dg ((Utf8.decode s p).1 : Int)))) = false, o = true, (.int .i64 n : Value) = .int .i64 n, (.bool m : Value) = .bool m, (.bool true : Value) = .bool true, (.int .i64 (IntKind.i64.wrap (y + 1)) : Value) = .int .i64 (IntKind.i64.wrap (y + 1)), (.int .i64 e : Value) = .int .i64 e, (.ptr 6 0 : SV) = .ptr 6 0, s = s, p + (Utf8.decode s p).2 = p + (Utf8.decode s p).2]) := by kernel_rfl
theorem wn_w2_ok (s : ByteArray) (n : Int) (m : Bool) (o : Bool) (y : Int) (e : Int) (p : Nat) (q0 : p < s.size) (q1 : ((p : Int) == 0) = false) (q2 : (decide (0 ≤ dg ((Utf8.decode s p).1 : Int))) = true) (q3 : (o) = true)  {good : Out → St → Prop} (hg : ∀ S1, Keeps S1 (wn_st s n m true (IntKind.i64.wrap (y + 1)) e (p + (Utf8.decode s p).2)) → good .normal S1) : StepTo P Z5 1 64 wn_b (wn_st s n m o y e p) good :=
  step_run (wn_w2 s n m o y e p) (ps_cons q0 (ps_cons q1 (ps_cons trivial (ps_cons (neg_f q2) (ps_cons q3 (ps_cons rfl (ps_cons rfl (ps_cons rfl (ps_cons rfl (ps_cons rfl (ps_cons rfl (ps_cons rfl (ps_cons rfl ps_nil))))))))))))) rfl hg
theorem wn_w3 (s : ByteArray) (n : Int) (m : Bool) (o : Bool) (y : Int) (e : Int) (p : Nat) (k_ : Nat) : stepF P Z5 1 64 wn_b (wn_st s n m o y e p) (.b true :: (.lit :: (.b false :: (.lit :: (.lit :: (.b true :: [])))))) 1000 (fun _ => some (wn_st s 0 m o y 12 (p + (Utf8.decode s p).2))) k_ =
  some (.ret, k_, [p < s.size, ((p : Int) == 0) = false, rP [.int .i32 ((Utf8.decode s p).1 : Int)], (!(decide (0 ≤ dg ((Utf8.decode s p).1 : Int)))) = true, (.int .i64 0 : Value) = .int .i64 0, (.bool m : Value) = .bool m, (.bool o : Value) = .bool o, (.int .i64 y : Value) = .int .i64 y, (.int .i64 12 : Value) = .int .i64 12, (.ptr 6 0 : SV) = .ptr 6 0, s = s, p + (Utf8.decode s p).2 = p + (Utf8.decode s p).2]) := by kernel_rfl
theorem wn_w3_ok (s : ByteArray) (n : Int) (m : Bool) (o : Bool) (y : Int) (e : Int) (p : Nat) (q0 : p < s.size) (q1 : ((p : Int) == 0) = false) (q2 : (decide (0 ≤ dg ((Utf8.decode s p).1 : Int))) = false)  {good : Out → St → Prop} (hg : ∀ S1, Keeps S1 (wn_st s 0 m o y 12 (p + (Utf8.decode s p).2)) → good .ret S1) : StepTo P Z5 1 64 wn_b (wn_st s n m o y e p) good :=
  step_run (wn_w3 s n m o y e p) (ps_cons q0 (ps_cons q1 (ps_cons trivial (ps_cons (neg_t q2) (ps_cons rfl (ps_cons rfl (ps_cons rfl (ps_cons rfl (ps_cons rfl (ps_cons rfl (ps_cons rfl (ps_cons rfl ps_nil)))))))))))) rfl hg
theorem wn_w4 (s : ByteArray) (n : Int) (m : Bool) (o : Bool) (y : Int) (e : Int) (p : Nat) (k_ : Nat) : stepF P Z5 1 64 wn_b (wn_st s n m o y e p) (.b true :: (.lit :: (.b false :: (.lit :: (.lit :: (.b false :: (.b false :: (.b false :: [])))))))) 1000 (fun _ => some (wn_st s n m (decide (n > IntKind.i64.wrap ((IntKind.i64.wrap (1152921504606846976 - (if dg ((Utf8.decode s p).1 : Int) < 0 then 0 else dg ((Utf8.decode s p).1 : Int)))).tdiv 10))) (IntKind.i64.wrap (y + 1)) e (p + (Utf8.decode s p).2))) k_ =
  some (.normal, k_, [p < s.size, ((p : Int) == 0) = false, rP [.int .i32 ((Utf8.decode s p).1 : Int)], (!(decide (0 ≤ dg ((Utf8.decode s p).1 : Int)))) = false, o = false, (!(decide (n > IntKind.i64.wrap ((IntKind.i64.wrap (1152921504606846976 - (if dg ((Utf8.decode s p).1 : Int) < 0 then 0 else dg ((Utf8.decode s p).1 : Int)))).tdiv 10)))) = false, (.int .i64 n : Value) = .int .i64 n, (.bool m : Value) = .bool m, (.bool (decide (n > IntKind.i64.wrap ((IntKind.i64.wrap (1152921504606846976 - (if dg ((Utf8.decode s p).1 : Int) < 0 then 0 else dg ((Utf8.decode s p).1 : Int)))).tdiv 10))) : Value) = .bool (decide (n > IntKind.i64.wrap ((IntKind.i64.wrap (1152921504606846976 - (if dg ((Utf8.decode s p).1 : Int) < 0 then 0 else dg ((Utf8.decode s p).1 : Int)))).tdiv 10))), (.int .i64 (IntKind.i64.wrap (y + 1)) : Value) = .int .i64 (IntKind.i64.wrap (y + 1)), (.int .i64 e : Value) = .int .i64 e, (.ptr 6 0 : SV) = .ptr 6 0, s = s, p + (Utf8.decode s p).2 = p + (Utf8.decode s p).2]) := by kernel_rfl
theorem wn_w4_ok (s : ByteArray) (n : Int) (m : Bool) (o : Bool) (y : Int) (e : Int) (p : Nat) (q0 : p < s.size) (q1 : ((p : Int) == 0) = false) (q2 : (decide (0 ≤ dg ((Utf8.decode s p).1 : Int))) = true) (q3 : (o) = false) (q4 : (decide (n > IntKind.i64.wrap ((IntKind.i64.wrap (1152921504606846976 - (if dg ((Utf8.decode s p).1 : Int) < 0 then 0 else dg ((Utf8.decode s p).1 : Int)))).tdiv 10))) = true)  {good : Out → St → Prop} (hg : ∀ S1, Keeps S1 (wn_st s n m (decide (n > IntKind.i64.wrap ((IntKind.i64.wrap (1152921504606846976 - (if dg ((Utf8.decode s p).1 : Int) < 0 then 0 else dg ((Utf8.decode s p).1 : Int)))).tdiv 10))) (IntKind.i64.wrap (y + 1)) e (p + (Utf8.decode s p).2)) → good .normal S1) : StepTo P Z5 1 64 wn_b (wn_st s n m o y e p) good :=
  step_run (wn_w4 s n m o y e p) (ps_cons q0 (ps_cons q1 (ps_cons trivial (ps_cons (neg_f q2) (ps_cons q3 (ps_cons (neg_f q4) (ps_cons rfl (ps_cons rfl (ps_cons rfl (ps_cons rfl (ps_cons rfl (ps_cons rfl (ps_cons rfl (ps_cons rfl ps_nil)))))))))))))) rfl hg
theorem wn_w5 (s : ByteArray) (n : Int) (m : Bool) (o : Bool) (y : Int) (e : Int) (p : Nat) (k_ : Nat) : stepF P Z5 1 64 wn_b (wn_st s n m o y e p) (.b true :: (.lit :: (.b false :: (.lit :: (.lit :: (.b false :: (.b false :: (.b true :: [])))))))) 1000 (fun _ => some (wn_st s (IntKind.i64.wrap (IntKind.i64.wrap (10 * n) + (if dg ((Utf8.decode s p).1 : Int) < 0 then 0 else dg ((Utf8.decode s p).1 : Int)))) m (decide (n > IntKind.i64.wrap ((IntKind.i64.wrap (1152921504606846976 - (if dg ((Utf8.decode s p).1 : Int) < 0 then 0 else dg ((Utf8.decode s p).1 : Int)))).tdiv 10))) (IntKind.i64.wrap (y + 1)) e (p + (Utf8.decode s p).2))) k_ =
  some (.normal, k_, [p < s.size, ((p : Int) == 0) = false, rP [.int .i32 ((Utf8.decode s p).1 : Int)], (!(decide (0 ≤ dg ((Utf8.decode s p).1 : Int)))) = false, o = false, (!(decide (n > IntKind.i64.wrap ((IntKind.i64.wrap (1152921504606846976 - (if dg ((Utf8.decode s p).1 : Int) < 0 then 0 else dg ((Utf8.decode s p).1 : Int)))).tdiv 10)))) = true, (.int .i64 (IntKind.i64.wrap (IntKind.i64.wrap (10 * n) + (if dg ((Utf8.decode s p).1 : Int) < 0 then 0 else dg ((Utf8.decode s p).1 : Int)))) : Value) = .int .i64 (IntKind.i64.wrap (IntKind.i64.wrap (10 * n) + (if dg ((Utf8.decode s p).1 : Int) < 0 then 0 else dg ((Utf8.decode s p).1 : Int)))), (.bool m : Value) = .bool m, (.bool (decide (n > IntKind.i64.wrap ((IntKind.i64.wrap (1152921504606846976 - (if dg ((Utf8.decode s p).1 : Int) < 0 then 0 else dg ((Utf8.decode s p).1 : Int)))).tdiv 10))) : Value) = .bool (decide (n > IntKind.i64.wrap ((IntKind.i64.wrap (1152921504606846976 - (if dg ((Utf8.decode s p).1 : Int) < 0 then 0 else dg ((Utf8.decode s p).1 : Int)))).tdiv 10))), (.int .i64 (IntKind.i64.wrap (y + 1)) : Value) = .int .i64 (IntKind.i64.wrap (y + 1)), (.int .i64 e : Value) = .int .i64 e, (.ptr 6 0 : SV) = .ptr 6 0, s = s, p + (Utf8.decode s p).2 = p + (Utf8.decode s p).2]) := by kernel_rfl
theorem wn_w5_ok (s : ByteArray) (n : Int) (m : Bool) (o : Bool) (y : Int) (e : Int) (p : Nat) (q0 : p < s.size) (q1 : ((p : Int) == 0) = false) (q2 : (decide (0 ≤ dg ((Utf8.decode s p).1 : Int))) = true) (q3 : (o) = false) (q4 : (decide (n > IntKind.i64.wrap ((IntKind.i64.wrap (1152921504606846976 - (if dg ((Utf8.decode s p).1 : Int) < 0 then 0 else dg ((Utf8.decode s p).1 : Int)))).tdiv 10))) = false)  {good : Out → St → Prop} (hg : ∀ S1, Keeps S1 (wn_st s (IntKind.i64.wrap (IntKind.i64.wrap (10 * n) + (if dg ((Utf8.decode s p).1 : Int) < 0 then 0 else dg ((Utf8.decode s p).1 : Int)))) m (decide (n > IntKind.i64.wrap ((IntKind.i64.wrap (1152921504606846976 - (if dg ((Utf8.decode s p).1 : Int) < 0 then 0 else dg ((Utf8.decode s p).1 : Int)))).tdiv 10))) (IntKind.i64.wrap (y + 1)) e (p + (Utf8.decode s p).2)) → good .normal S1) : StepTo P Z5 1 64 wn_b (wn_st s n m o y e p) good :=
  step_run (wn_w5 s n m o y e p) (ps_cons q0 (ps_cons q1 (ps_cons trivial (ps_cons (neg_f q2) (ps_cons q3 (ps_cons (neg_t q4) (ps_cons rfl (ps_cons rfl (ps_cons rfl (ps_cons rfl (ps_cons rfl (ps_cons rfl (ps_cons rfl (ps_cons rfl ps_nil)))))))))))))) rfl hg
theorem wn_w6 (s : ByteArray) (n : Int) (m : Bool) (o : Bool) (y : Int) (e : Int) (p : Nat) (k_ : Nat) : stepF P Z5 1 64 wn_b (wn_st s n m o y e p) (.b true :: (.lit :: (.b true :: (.b false :: (.b true :: []))))) 1000 (fun _ => some (wn_st s n true o y e (p + (Utf8.decode s p).2))) k_ =
  some (.normal, k_, [p < s.size, ((p : Int) == 0) = true, (((Utf8.decode s p).1 : Int) == 45) = false, (((Utf8.decode s p).1 : Int) == 8722) = true, (.int .i64 n : Value) = .int .i64 n, (.bool true : Value) = .bool true, (.bool o : Value) = .bool o, (.int .i64 y : Value) = .int .i64 y, (.int .i64 e : Value) = .int .i64 e, (.ptr 6 0 : SV) = .ptr 6 0, s = s, p + (Utf8.decode s p).2 = p + (Utf8.decode s p).2]) := by kernel_rfl
theorem wn_w6_ok (s : ByteArray) (n : Int) (m : Bool) (o : Bool) (y : Int) (e : Int) (p : Nat) (q0 : p < s.size) (q1 : ((p : Int) == 0) = true) (q2 : (((Utf8.decode s p).1 : Int) == 45) = false) (q3 : (((Utf8.decode s p).1 : Int) == 8722) = true)  {good : Out → St → Prop} (hg : ∀ S1, Keeps S1 (wn_st s n true o y e (p + (Utf8.decode s p).2)) → good .normal S1) : StepTo P Z5 1 64 wn_b (wn_st s n m o y e p) good :=
  step_run (wn_w6 s n m o y e p) (ps_cons q0 (ps_cons q1 (ps_cons q2 (ps_cons q3 (ps_cons rfl (ps_cons rfl (ps_cons rfl (ps_cons rfl (ps_cons rfl (ps_cons rfl (ps_cons rfl (ps_cons rfl ps_nil)))))))))))) rfl hg
theorem wn_w7 (s : ByteArray) (n : Int) (m : Bool) (o : Bool) (y : Int) (e : Int) (p : Nat) (k_ : Nat) : stepF P Z5 1 64 wn_b (wn_st s n m o y e p) (.b true :: (.lit :: (.b true :: (.b false :: (.b false :: (.b false :: (.b true :: []))))))) 1000 (fun _ => some (wn_st s n m true (IntKind.i64.wrap (y + 1)) e (p + (Utf8.decode s p).2))) k_ =
  some (.normal, k_, [p < s.size, ((p : Int) == 0) = true, (((Utf8.decode s p).1 : Int) == 45) = false, (((Utf8.decode s p).1 : Int) == 8722) = false, rP [.int .i32 ((Utf8.decode s p).1 : Int)], (!(decide (0 ≤ dg ((Utf8.decode s p).1 : Int)))) = false, o = true, (.int .i64 n : Value) = .int .i64 n, (.bool m : Value) = .bool m, (.bool true : Value) = .bool true, (.int .i64 (IntKind.i64.wrap (y + 1)) : Value) = .int .i64 (IntKind.i64.wrap (y + 1)), (.int .i64 e : Value) = .int .i64 e, (.ptr 6 0 : SV) = .ptr 6 0, s = s, p + (Utf8.decode s p).2 = p + (Utf8.decode s p).2]) := by kernel_rfl
theorem wn_w7_ok (s : ByteArray) (n : Int) (m : Bool) (o : Bool) (y : Int) (e : Int) (p : Nat) (q0 : p < s.size) (q1 : ((p : Int) == 0) = true) (q2 : (((Utf8.decode s p).1 : Int) == 45) = false) (q3 : (((Utf8.decode s p).1 : Int) == 8722) = false) (q4 : (decide (0 ≤ dg ((Utf8.decode s p).1 : Int))) = true) (q5 : (o) = true)  {good : Out → St → Prop} (hg : ∀ S1, Keeps S1 (wn_st s n m true (IntKind.i64.wrap (y + 1)) e (p + (Utf8.decode s p).2)) → good .normal S1) : StepTo P Z5 1 64 wn_b (wn_st s n m o y e p) good :=
  step_run (wn_w7 s n m o y e p) (ps_cons q0 (ps_cons q1 (ps_cons q2 (ps_cons q3 (ps_cons trivial (ps_cons (neg_f q4) (ps_cons q5 (ps_cons rfl (ps_cons rfl (ps_cons rfl (ps_cons rfl (ps_cons rfl (ps_cons rfl (ps_cons rfl (ps_cons rfl ps_nil))))))))))))))) rfl hg
theorem wn_w8 (s : ByteArray) (n : Int) (m : Bool) (o : Bool) (y : Int) (e : Int) (p : Nat) (k_ : Nat) : stepF P Z5 1 64 wn_b (wn_st s n m o y e p) (.b true :: (.lit :: (.b true :: (.b false :: (.b false :: (.b true :: [])))))) 1000 (fun _ => some (wn_st s 0 m o y 12 (p + (Utf8.decode s p).2))) k_ =
  some (.ret, k_, [p < s.size, ((p : Int) == 0) = true, (((Utf8.decode s p).1 : Int) == 45) = false, (((Utf8.decode s p).1 : Int) == 8722) = false, rP [.int .i32 ((Utf8.decode s p).1 : Int)], (!(decide (0 ≤ dg ((Utf8.decode s p).1 : Int)))) = true, (.int .i64 0 : Value) = .int .i64 0, (.bool m : Value) = .bool m, (.bool o : Value) = .bool o, (.int .i64 y : Value) = .int .i64 y, (.int .i64 12 : Value) = .int .i64 12, (.ptr 6 0 : SV) = .ptr 6 0, s = s, p + (Utf8.decode s p).2 = p + (Utf8.decode s p).2]) := by kernel_rfl
theorem wn_w8_ok (s : ByteArray) (n : Int) (m : Bool) (o : Bool) (y : Int) (e : Int) (p : Nat) (q0 : p < s.size) (q1 : ((p : Int) == 0) = true) (q2 : (((Utf8.decode s p).1 : Int) == 45) = false) (q3 : (((Utf8.decode s p).1 : Int) == 8722) = false) (q4 : (decide (0 ≤ dg ((Utf8.decode s p).1 : Int))) = false)  {good : Out → St → Prop} (hg : ∀ S1, Keeps S1 (wn_st s 0 m o y 12 (p + (Utf8.decode s p).2)) → good .ret S1) : StepTo P Z5 1 64 wn_b (wn_st s n m o y e p) good :=
  step_run (wn_w8 s n m o y e p) (ps_cons q0 (ps_cons q1 (ps_cons q2 (ps_cons q3 (ps_cons trivial (ps_cons (neg_t q4) (ps_cons rfl (ps_cons rfl (ps_cons rfl (ps_cons rfl (ps_cons rfl (ps_cons rfl (ps_cons rfl (ps_cons rfl ps_nil)))))))))))))) rfl hg
theorem wn_w9 (s : ByteArray) (n : Int) (m : Bool) (o : Bool) (y : Int) (e : Int) (p : Nat) (k_ : Nat) : stepF P Z5 1 64 wn_b (wn_st s n m o y e p) (.b true :: (.lit :: (.b true :: (.b false :: (.b false :: (.b false :: (.b false :: (.b false :: [])))))))) 1000 (fun _ => some (wn_st s n m (decide (n > IntKind.i64.wrap ((IntKind.i64.wrap (1152921504606846976 - (if dg ((Utf8.decode s p).1 : Int) < 0 then 0 else dg ((Utf8.decode s p).1 : Int)))).tdiv 10))) (IntKind.i64.wrap (y + 1)) e (p + (Utf8.decode s p).2))) k_ =
  some (.normal, k_, [p < s.size, ((p : Int) == 0) = true, (((Utf8.decode s p).1 : Int) == 45) = false, (((Utf8.decode s p).1 : Int) == 8722) = false, rP [.int .i32 ((Utf8.decode s p).1 : Int)], (!(decide (0 ≤ dg ((Utf8.decode s p).1 : Int)))) = false, o = false, (!(decide (n > IntKind.i64.wrap ((IntKind.i64.wrap (1152921504606846976 - (if dg ((Utf8.decode s p).1 : Int) < 0 then 0 else dg ((Utf8.decode s p).1 : Int)))).tdiv 10)))) = false, (.int .i64 n : Value) = .int .i64 n, (.bool m : Value) = .bool m, (.bool (decide (n > IntKind.i64.wrap ((IntKind.i64.wrap (1152921504606846976 - (if dg ((Utf8.decode s p).1 : Int) < 0 then 0 else dg ((Utf8.decode s p).1 : Int)))).tdiv 10))) : Value) = .bool (decide (n > IntKind.i64.wrap ((IntKind.i64.wrap (1152921504606846976 - (if dg ((Utf8.decode s p).1 : Int) < 0 then 0 else dg ((Utf8.decode s p).1 : Int)))).tdiv 10))), (.int .i64 (IntKind.i64.wrap (y + 1)) : Value) = .int .i64 (IntKind.i64.wrap (y + 1)), (.int .i64 e : Value) = .int .i64 e, (.ptr 6 0 : SV) = .ptr 6 0, s = s, p + (Utf8.decode s p).2 = p + (Utf8.decode s p).2]) := by kernel_rfl
theorem wn_w9_ok (s : ByteArray) (n : Int) (m : Bool) (o : Bool) (y : Int) (e : Int) (p : Nat) (q0 : p < s.size) (q1 : ((p : Int) == 0) = true) (q2 : (((Utf8.decode s p).1 : Int) == 45) = false) (q3 : (((Utf8.decode s p).1 : Int) == 8722) = false) (q4 : (decide (0 ≤ dg ((Utf8.decode s p).1 : Int))) = true) (q5 : (o) = false) (q6 : (decide (n > IntKind.i64.wrap ((IntKind.i64.wrap (1152921504606846976 - (if dg ((Utf8.decode s p).1 : Int) < 0 then 0 else dg ((Utf8.decode s p).1 : Int)))).tdiv 10))) = true)  {good : Out → St → Prop} (hg : ∀ S1, Keeps S1 (wn_st s n m (decide (n > IntKind.i64.wrap ((IntKind.i64.wrap (1152921504606846976 - (if dg ((Utf8.decode s p).1 : Int) < 0 then 0 else dg ((Utf8.decode s p).1 : Int)))).tdiv 10))) (IntKind.i64.wrap (y + 1)) e (p + (Utf8.decode s p).2)) → good .normal S1) : StepTo P Z5 1 64 wn_b (wn_st s n m o y e p) good :=
  step_run (wn_w9 s n m o y e p) (ps_cons q0 (ps_cons q1 (ps_cons q2 (ps_cons q3 (ps_cons trivial (ps_cons (neg_f q4) (ps_cons q5 (ps_cons (neg_f q6) (ps_cons rfl (ps_cons rfl (ps_cons rfl (ps_cons rfl (ps_cons rfl (ps_cons rfl (ps_cons rfl (ps_cons rfl ps_nil)))))))))))))))) rfl hg
theorem wn_w10 (s : ByteArray) (n : Int) (m : Bool) (o : Bool) (y : Int) (e : Int) (p : Nat) (k_ : Nat) : stepF P Z5 1 64 wn_b (wn_st s n m o y e p) (.b true :: (.lit :: (.b true :: (.b false :: (.b false :: (.b false :: (.b false :: (.b true :: [])))))))) 1000 (fun _ => some (wn_st s (IntKind.i64.wrap (IntKind.i64.wrap (10 * n) + (if dg ((Utf8.decode s p).1 : Int) < 0 then 0 else dg ((Utf8.decode s p).1 : Int)))) m (decide (n > IntKind.i64.wrap ((IntKind.i64.wrap (1152921504606846976 - (if dg ((Utf8.decode s p).1 : Int) < 0 then 0 else dg ((Utf8.decode s p).1 : Int)))).tdiv 10))) (IntKind.i64.wrap (y + 1)) e (p + (Utf8.decode s p).2))) k_ =
  some (.normal, k_, [p < s.size, ((p : Int) == 0) = true, (((Utf8.decode s p).1 : Int) == 45) = false, (((Utf8.decode s p).1 : Int) == 8722) = false, rP [.int .i32 ((Utf8.decode s p).1 : Int)], (!(decide (0 ≤ dg ((Utf8.decode s p).1 : Int)))) = false, o = false, (!(decide (n > IntKind.i64.wrap ((IntKind.i64.wrap (1152921504606846976 - (if dg ((Utf8.decode s p).1 : Int) < 0 then 0 else dg ((Utf8.decode s p).1 : Int)))).tdiv 10)))) = true, (.int .i64 (IntKind.i64.wrap (IntKind.i64.wrap (10 * n) + (if dg ((Utf8.decode s p).1 : Int) < 0 then 0 else dg ((Utf8.decode s p).1 : Int)))) : Value) = .int .i64 (IntKind.i64.wrap (IntKind.i64.wrap (10 * n) + (if dg ((Utf8.decode s p).1 : Int) < 0 then 0 else dg ((Utf8.decode s p).1 : Int)))), (.bool m : Value) = .bool m, (.bool (decide (n > IntKind.i64.wrap ((IntKind.i64.wrap (1152921504606846976 - (if dg ((Utf8.decode s p).1 : Int) < 0 then 0 else dg ((Utf8.decode s p).1 : Int)))).tdiv 10))) : Value) = .bool (decide (n > IntKind.i64.wrap ((IntKind.i64.wrap (1152921504606846976 - (if dg ((Utf8.decode s p).1 : Int) < 0 then 0 else dg ((Utf8.decode s p).1 : Int)))).tdiv 10))), (.int .i64 (IntKind.i64.wrap (y + 1)) : Value) = .int .i64 (IntKind.i64.wrap (y + 1)), (.int .i64 e : Value) = .int .i64 e, (.ptr 6 0 : SV) = .ptr 6 0, s = s, p + (Utf8.decode s p).2 = p + (Utf8.decode s p).2]) := by kernel_rfl
theorem wn_w10_ok (s : ByteArray) (n : Int) (m : Bool) (o : Bool) (y : Int) (e : Int) (p : Nat) (q0 : p < s.size) (q1 : ((p : Int) == 0) = true) (q2 : (((Utf8.decode s p).1 : Int) == 45) = false) (q3 : (((Utf8.decode s p).1 : Int) == 8722) = false) (q4 : (decide (0 ≤ dg ((Utf8.decode s p).1 : Int))) = true) (q5 : (o) = false) (q6 : (decide (n > IntKind.i64.wrap ((IntKind.i64.wrap (1152921504606846976 - (if dg ((Utf8.decode s p).1 : Int) < 0 then 0 else dg ((Utf8.decode s p).1 : Int)))).tdiv 10))) = false)  {good : Out → St → Prop} (hg : ∀ S1, Keeps S1 (wn_st s (IntKind.i64.wrap (IntKind.i64.wrap (10 * n) + (if dg ((Utf8.decode s p).1 : Int) < 0 then 0 else dg ((Utf8.decode s p).1 : Int)))) m (decide (n > IntKind.i64.wrap ((IntKind.i64.wrap (1152921504606846976 - (if dg ((Utf8.decode s p).1 : Int) < 0 then 0 else dg ((Utf8.decode s p).1 : Int)))).tdiv 10))) (IntKind.i64.wrap (y + 1)) e (p + (Utf8.decode s p).2)) → good .normal S1) : StepTo P Z5 1 64 wn_b (wn_st s n m o y e p) good :=
  step_run (wn_w10 s n m o y e p) (ps_cons q0 (ps_cons q1 (ps_cons q2 (ps_cons q3 (ps_cons trivial (ps_cons (neg_f q4) (ps_cons q5 (ps_cons (neg_t q6) (ps_cons rfl (ps_cons rfl (ps_cons rfl (ps_cons rfl (ps_cons rfl (ps_cons rfl (ps_cons rfl (ps_cons rfl ps_nil)))))))))))))))) rfl hg
def wn_g (s : ByteArray) (k : Nat) : St := wn_st s (nst s k).1 (mk s k) (nst s k).2.1 ((nst s k).2.2 : Nat) 0 (ps s k)
theorem wn_min {s : ByteArray} (h : sk s 0 = true) {good : Out → St → Prop} (hg : ∀ S1, Keeps S1 (wn_g s 1) → good .normal S1) : StepTo P Z5 1 64 wn_b (wn_g s 0) good := by
  have hm : mi s = true := by simpa [sk] using h
  have hc : 0 < cn s := by
    unfold mi at hm
    simp only [Bool.and_eq_true, decide_eq_true_eq] at hm
    exact hm.1
  have hr : mn (rn s 0) = true := by
    unfold mi at hm
    simp only [Bool.and_eq_true, decide_eq_true_eq] at hm
    exact hm.2
  have hg : ∀ S1, Keeps S1 (wn_st s (nst s 0).1 true (nst s 0).2.1 ((nst s 0).2.2 : Nat) 0 (ps s 1)) → good .normal S1 := fun S1 hk => hg S1 (by
    unfold wn_g
    rw [nst_sk h, show mk s 1 = true from by unfold mk; rw [hm]; rfl]
    exact hk)
  unfold mn at hr
  cases q2 : ((rn s 0 : Int) == 45) with
  | true => exact wn_w0_ok s _ _ _ _ _ _ (cn_lt hc) rfl q2 hg
  | false =>
    rw [q2] at hr
    exact wn_w6_ok s _ _ _ _ _ _ (cn_lt hc) rfl q2 hr hg
theorem dgv {c : Int} (h : 0 ≤ dg c) : (if dg c < 0 then 0 else dg c) = dg c := if_neg (by omega)
theorem wn_dig {s : ByteArray} (hs : s.size ≤ 1000000) {k : Nat} (hk : k < cn s) (h : sk s k = false) (hd : 0 ≤ dg (rn s k)) {good : Out → St → Prop} (hg : ∀ S1, Keeps S1 (wn_g s (k + 1)) → good .normal S1) : StepTo P Z5 1 64 wn_b (wn_g s k) good := by
  have hy := nst_le s k
  have hc := cn_le s
  have e1 : IntKind.i64.wrap (((nst s k).2.2 : Nat) + 1 : Int) = (((nst s k).2.2 + 1 : Nat) : Int) := by rw [wr (by omega) (by omega)]; rfl
  have qd : decide (0 ≤ dg ((Utf8.decode s (ps s k)).1 : Int)) = true := decide_eq_true hd
  have hmk : k = 0 → mn (rn s k) = false := fun e => by
    subst e
    unfold sk mi at h
    rw [decide_eq_true hk] at h
    simpa using h
  have em : mk s (k + 1) = mk s k := by
    unfold mk
    rcases Nat.eq_zero_or_pos k with e | e
    · subst e
      have : mi s = false := by simpa [sk] using h
      rw [this]; rfl
    · rw [decide_eq_true e, decide_eq_true (Nat.succ_pos k)]
  have dv : (if dg ((Utf8.decode s (ps s k)).1 : Int) < 0 then 0 else dg ((Utf8.decode s (ps s k)).1 : Int)) = dg (rn s k) := dgv hd
  cases q3 : (nst s k).2.1 with
  | true =>
    have hg : ∀ S1, Keeps S1 (wn_st s (nst s k).1 (mk s k) true (IntKind.i64.wrap (((nst s k).2.2 : Nat) + 1 : Int)) 0 (ps s k + (Utf8.decode s (ps s k)).2)) → good .normal S1 := fun S1 hk1 => hg S1 (by
      unfold wn_g
      rw [nst_o h q3, em]
      rw [e1] at hk1
      exact hk1)
    rcases Nat.eq_zero_or_pos k with e | e
    · have hm := hmk e
      unfold mn at hm
      simp only [Bool.or_eq_false_iff] at hm
      exact wn_w7_ok s _ _ _ _ _ _ (cn_lt hk) (by subst e; rfl) hm.1 hm.2 qd q3 hg
    · have := ps_ge s k
      exact wn_w2_ok s _ _ _ _ _ _ (cn_lt hk) (by apply beq_false_of_ne; omega) qd q3 hg
  | false =>
    cases q4 : ov (nst s k).1 (dg (rn s k)) with
    | true =>
      have qv : decide ((nst s k).1 > IntKind.i64.wrap ((IntKind.i64.wrap (1152921504606846976 - (if dg ((Utf8.decode s (ps s k)).1 : Int) < 0 then 0 else dg ((Utf8.decode s (ps s k)).1 : Int)))).tdiv 10)) = true := by rw [dv]; exact q4
      have hg : ∀ S1, Keeps S1 (wn_st s (nst s k).1 (mk s k) (decide ((nst s k).1 > IntKind.i64.wrap ((IntKind.i64.wrap (1152921504606846976 - (if dg ((Utf8.decode s (ps s k)).1 : Int) < 0 then 0 else dg ((Utf8.decode s (ps s k)).1 : Int)))).tdiv 10))) (IntKind.i64.wrap (((nst s k).2.2 : Nat) + 1 : Int)) 0 (ps s k + (Utf8.decode s (ps s k)).2)) → good .normal S1 := fun S1 hk1 => hg S1 (by
        unfold wn_g
        rw [nst_v h q4, em]
        rw [e1, qv] at hk1
        exact hk1)
      rcases Nat.eq_zero_or_pos k with e | e
      · have hm := hmk e
        unfold mn at hm
        simp only [Bool.or_eq_false_iff] at hm
        exact wn_w9_ok s _ _ _ _ _ _ (cn_lt hk) (by subst e; rfl) hm.1 hm.2 qd q3 qv hg
      · have := ps_ge s k
        exact wn_w4_ok s _ _ _ _ _ _ (cn_lt hk) (by apply beq_false_of_ne; omega) qd q3 qv hg
    | false =>
      have qv : decide ((nst s k).1 > IntKind.i64.wrap ((IntKind.i64.wrap (1152921504606846976 - (if dg ((Utf8.decode s (ps s k)).1 : Int) < 0 then 0 else dg ((Utf8.decode s (ps s k)).1 : Int)))).tdiv 10)) = false := by rw [dv]; exact q4
      have hg : ∀ S1, Keeps S1 (wn_st s (IntKind.i64.wrap (IntKind.i64.wrap (10 * (nst s k).1) + (if dg ((Utf8.decode s (ps s k)).1 : Int) < 0 then 0 else dg ((Utf8.decode s (ps s k)).1 : Int)))) (mk s k) (decide ((nst s k).1 > IntKind.i64.wrap ((IntKind.i64.wrap (1152921504606846976 - (if dg ((Utf8.decode s (ps s k)).1 : Int) < 0 then 0 else dg ((Utf8.decode s (ps s k)).1 : Int)))).tdiv 10))) (IntKind.i64.wrap (((nst s k).2.2 : Nat) + 1 : Int)) 0 (ps s k + (Utf8.decode s (ps s k)).2)) → good .normal S1 := fun S1 hk1 => hg S1 (by
        unfold wn_g
        rw [nst_d h q3 q4, em]
        rw [e1, qv, dv] at hk1
        exact hk1)
      rcases Nat.eq_zero_or_pos k with e | e
      · have hm := hmk e
        unfold mn at hm
        simp only [Bool.or_eq_false_iff] at hm
        exact wn_w10_ok s _ _ _ _ _ _ (cn_lt hk) (by subst e; rfl) hm.1 hm.2 qd q3 qv hg
      · have := ps_ge s k
        exact wn_w5_ok s _ _ _ _ _ _ (cn_lt hk) (by apply beq_false_of_ne; omega) qd q3 qv hg
theorem wn_badstep {s : ByteArray} {k : Nat} (hk : k < cn s) (hb : good s k = false) {gd : Out → St → Prop} (hg : ∀ S1, Keeps S1 (wn_st s 0 (mk s k) (nst s k).2.1 ((nst s k).2.2 : Nat) 12 (ps s (k + 1))) → gd .ret S1) : StepTo P Z5 1 64 wn_b (wn_g s k) gd := by
  unfold good at hb
  simp only [Bool.or_eq_false_iff] at hb
  obtain ⟨h, hd⟩ := hb
  rcases Nat.eq_zero_or_pos k with e | e
  · have hm : mn (rn s k) = false := by
      subst e
      unfold sk mi at h
      rw [decide_eq_true hk] at h
      simpa using h
    unfold mn at hm
    simp only [Bool.or_eq_false_iff] at hm
    exact wn_w8_ok s _ _ _ _ _ _ (cn_lt hk) (by subst e; rfl) hm.1 hm.2 hd hg
  · have := ps_ge s k
    exact wn_w3_ok s _ _ _ _ _ _ (cn_lt hk) (by apply beq_false_of_ne; omega) hd hg
theorem wn_round {s : ByteArray} (hs : s.size ≤ 1000000) {k : Nat} (hk : k < cn s) (hb : good s k = true) {gd : Out → St → Prop} (hg : ∀ S1, Keeps S1 (wn_g s (k + 1)) → gd .normal S1) : StepTo P Z5 1 64 wn_b (wn_g s k) gd := by
  cases h : sk s k with
  | true =>
    have e : k = 0 := by
      unfold sk at h
      simp only [Bool.and_eq_true, beq_iff_eq] at h
      exact h.1
    subst e
    exact wn_min h hg
  | false =>
    unfold good at hb
    rw [h, Bool.false_or] at hb
    exact wn_dig hs hk h (of_decide_eq_true hb) hg
noncomputable def wn_loopG (s : ByteArray) (hs : s.size ≤ 1000000) (hg : ∀ j, j < cn s → good s j = true) : CodeC P :=
  loopC mo Z5 (by rfl) 1 64 wn_b [6] (wn_g s) (fun k => k ≤ cn s) (fun k => cn s - k) (.exit 0) (wn_g s (cn s)) (by simp) (fun _ => rfl) rfl (fun _ => by kernel_rfl) (by kernel_rfl) [] (fun _ => rfl) rfl
    (fun k hk => by
      by_cases h : k < cn s
      · exact wn_round hs h (hg k h) fun S1 hk1 => .inl ⟨rfl, k + 1, h, by omega, hk1⟩
      · have e : k = cn s := by omega
        subst e
        exact wn_w1_ok s _ _ _ _ _ _ (by have := cn_end s; omega) fun S1 hk1 => .inr ⟨rfl, hk1⟩) 0 (Nat.zero_le _)
noncomputable def wn_loopB (s : ByteArray) (hs : s.size ≤ 1000000) (b : Nat) (hb : b < cn s) (hg : ∀ j, j < b → good s j = true) (hbad : good s b = false) : CodeC P :=
  loopC mo Z5 (by rfl) 1 64 wn_b [6] (wn_g s) (fun k => k ≤ b) (fun k => b - k) .ret (wn_st s 0 (mk s b) (nst s b).2.1 ((nst s b).2.2 : Nat) 12 (ps s (b + 1))) (by simp) (fun _ => rfl) rfl (fun _ => by kernel_rfl) (by kernel_rfl) [] (fun _ => rfl) rfl
    (fun k hk => by
      by_cases h : k < b
      · exact wn_round hs (by omega) (hg k h) fun S1 hk1 => .inl ⟨rfl, k + 1, h, by omega, hk1⟩
      · have e : k = b := by omega
        subst e
        exact wn_badstep hb hbad fun S1 hk1 => .inr ⟨rfl, hk1⟩) 0 (Nat.zero_le _)
noncomputable def wn_EG (s : ByteArray) (hs : s.size ≤ 1000000) (hg : ∀ j, j < cn s → good s j = true) : Env P := ⟨⟨[], [], []⟩, [wn_loopG s hs hg], 10, []⟩
noncomputable def wn_EB (s : ByteArray) (hs : s.size ≤ 1000000) (b : Nat) (hb : b < cn s) (hg : ∀ j, j < b → good s j = true) (hbad : good s b = false) : Env P := ⟨⟨[], [], []⟩, [wn_loopB s hs b hb hg hbad], 10, []⟩
def nvG (s : ByteArray) : Int × Int :=
  if (nst s (cn s)).2.2 = 0 ∨ 20 < (nst s (cn s)).2.2 then (0, 12)
  else if (nst s (cn s)).2.1 then (0, 20)
  else if mi s then (IntKind.i64.wrap (0 - (nst s (cn s)).1), 0) else ((nst s (cn s)).1, 0)
theorem mk_end (s : ByteArray) : mk s (cn s) = mi s := by
  unfold mk mi
  cases decide (0 < cn s) <;> rfl
theorem wq0_leaf (s : ByteArray) (hs : s.size ≤ 1000000) (hg : ∀ j, j < cn s → good s j = true) (q0 : ((((nst s (cn s)).2.2 : Nat) : Int) == 0) = true) : Gives P 11 #[.string s] (.tuple #[.int .i64 (nvG s).1, .int .i64 (nvG s).2]) := by
  refine gives_of_run (E := (wn_EG s hs hg)) (lv := 1) (ds := (.n 0 :: (.b true :: []))) (v := .tuple #[.int .i64 0, .int .i64 12]) (ps := [Code.loop wn_b = innerOf P 11 0, (.int .i64 0 : Value) = .int .i64 ((nst s 0).1), (.bool false : Value) = .bool (mk s 0), (.bool false : Value) = .bool ((nst s 0).2.1), (.int .i64 0 : Value) = .int .i64 (((nst s 0).2.2 : Nat) : Int), (.int .i64 0 : Value) = .int .i64 0, (.ptr 6 0 : SV) = .ptr 6 0, s = s, 0 = ps s 0, ((((nst s (cn s)).2.2 : Nat) : Int) == 0) = true]) mo (by kernel_rfl) (ps_cons (by kernel_rfl) (ps_cons rfl (ps_cons (by rfl) (ps_cons rfl (ps_cons rfl (ps_cons rfl (ps_cons rfl (ps_cons rfl (ps_cons rfl (ps_cons q0 ps_nil)))))))))) ?_
  have p0 := eq_of_beq q0
  have e : nvG s = (0, 12) := by unfold nvG; rw [if_pos (by omega)]
  rw [e]
theorem wq1_leaf (s : ByteArray) (hs : s.size ≤ 1000000) (hg : ∀ j, j < cn s → good s j = true) (q0 : ((((nst s (cn s)).2.2 : Nat) : Int) == 0) = false) (q1 : (decide ((((nst s (cn s)).2.2 : Nat) : Int) > 20)) = true) : Gives P 11 #[.string s] (.tuple #[.int .i64 (nvG s).1, .int .i64 (nvG s).2]) := by
  refine gives_of_run (E := (wn_EG s hs hg)) (lv := 1) (ds := (.n 0 :: (.b false :: (.b true :: [])))) (v := .tuple #[.int .i64 0, .int .i64 12]) (ps := [Code.loop wn_b = innerOf P 11 0, (.int .i64 0 : Value) = .int .i64 ((nst s 0).1), (.bool false : Value) = .bool (mk s 0), (.bool false : Value) = .bool ((nst s 0).2.1), (.int .i64 0 : Value) = .int .i64 (((nst s 0).2.2 : Nat) : Int), (.int .i64 0 : Value) = .int .i64 0, (.ptr 6 0 : SV) = .ptr 6 0, s = s, 0 = ps s 0, ((((nst s (cn s)).2.2 : Nat) : Int) == 0) = false, (decide ((((nst s (cn s)).2.2 : Nat) : Int) > 20)) = true]) mo (by kernel_rfl) (ps_cons (by kernel_rfl) (ps_cons rfl (ps_cons (by rfl) (ps_cons rfl (ps_cons rfl (ps_cons rfl (ps_cons rfl (ps_cons rfl (ps_cons rfl (ps_cons q0 (ps_cons q1 ps_nil))))))))))) ?_
  have p0 := ne_of_beq_false q0
  have p1 := of_decide_eq_true q1
  have e : nvG s = (0, 12) := by unfold nvG; rw [if_pos (by omega)]
  rw [e]
theorem wq2_leaf (s : ByteArray) (hs : s.size ≤ 1000000) (hg : ∀ j, j < cn s → good s j = true) (q0 : ((((nst s (cn s)).2.2 : Nat) : Int) == 0) = false) (q1 : (decide ((((nst s (cn s)).2.2 : Nat) : Int) > 20)) = false) (q2 : ((nst s (cn s)).2.1) = true) : Gives P 11 #[.string s] (.tuple #[.int .i64 (nvG s).1, .int .i64 (nvG s).2]) := by
  refine gives_of_run (E := (wn_EG s hs hg)) (lv := 1) (ds := (.n 0 :: (.b false :: (.b false :: (.b true :: []))))) (v := .tuple #[.int .i64 0, .int .i64 20]) (ps := [Code.loop wn_b = innerOf P 11 0, (.int .i64 0 : Value) = .int .i64 ((nst s 0).1), (.bool false : Value) = .bool (mk s 0), (.bool false : Value) = .bool ((nst s 0).2.1), (.int .i64 0 : Value) = .int .i64 (((nst s 0).2.2 : Nat) : Int), (.int .i64 0 : Value) = .int .i64 0, (.ptr 6 0 : SV) = .ptr 6 0, s = s, 0 = ps s 0, ((((nst s (cn s)).2.2 : Nat) : Int) == 0) = false, (decide ((((nst s (cn s)).2.2 : Nat) : Int) > 20)) = false, ((nst s (cn s)).2.1) = true]) mo (by kernel_rfl) (ps_cons (by kernel_rfl) (ps_cons rfl (ps_cons (by rfl) (ps_cons rfl (ps_cons rfl (ps_cons rfl (ps_cons rfl (ps_cons rfl (ps_cons rfl (ps_cons q0 (ps_cons q1 (ps_cons q2 ps_nil)))))))))))) ?_
  have p0 := ne_of_beq_false q0
  have p1 := of_decide_eq_false q1
  have e : nvG s = (0, 20) := by unfold nvG; rw [if_neg (by omega), if_pos q2]
  rw [e]
theorem wq3_leaf (s : ByteArray) (hs : s.size ≤ 1000000) (hg : ∀ j, j < cn s → good s j = true) (q0 : ((((nst s (cn s)).2.2 : Nat) : Int) == 0) = false) (q1 : (decide ((((nst s (cn s)).2.2 : Nat) : Int) > 20)) = false) (q2 : ((nst s (cn s)).2.1) = false) (q3 : (mk s (cn s)) = true) : Gives P 11 #[.string s] (.tuple #[.int .i64 (nvG s).1, .int .i64 (nvG s).2]) := by
  refine gives_of_run (E := (wn_EG s hs hg)) (lv := 1) (ds := (.n 0 :: (.b false :: (.b false :: (.b false :: (.b true :: [])))))) (v := .tuple #[.int .i64 (IntKind.i64.wrap (0 - ((nst s (cn s)).1))), .int .i64 0]) (ps := [Code.loop wn_b = innerOf P 11 0, (.int .i64 0 : Value) = .int .i64 ((nst s 0).1), (.bool false : Value) = .bool (mk s 0), (.bool false : Value) = .bool ((nst s 0).2.1), (.int .i64 0 : Value) = .int .i64 (((nst s 0).2.2 : Nat) : Int), (.int .i64 0 : Value) = .int .i64 0, (.ptr 6 0 : SV) = .ptr 6 0, s = s, 0 = ps s 0, ((((nst s (cn s)).2.2 : Nat) : Int) == 0) = false, (decide ((((nst s (cn s)).2.2 : Nat) : Int) > 20)) = false, ((nst s (cn s)).2.1) = false, (mk s (cn s)) = true]) mo (by kernel_rfl) (ps_cons (by kernel_rfl) (ps_cons rfl (ps_cons (by rfl) (ps_cons rfl (ps_cons rfl (ps_cons rfl (ps_cons rfl (ps_cons rfl (ps_cons rfl (ps_cons q0 (ps_cons q1 (ps_cons q2 (ps_cons q3 ps_nil))))))))))))) ?_
  have p0 := ne_of_beq_false q0
  have p1 := of_decide_eq_false q1
  have e : nvG s = (IntKind.i64.wrap (0 - (nst s (cn s)).1), 0) := by unfold nvG; rw [if_neg (by omega), if_neg (by rw [q2]; simp), if_pos (by rw [← mk_end]; exact q3)]
  rw [e]
theorem wq4_leaf (s : ByteArray) (hs : s.size ≤ 1000000) (hg : ∀ j, j < cn s → good s j = true) (q0 : ((((nst s (cn s)).2.2 : Nat) : Int) == 0) = false) (q1 : (decide ((((nst s (cn s)).2.2 : Nat) : Int) > 20)) = false) (q2 : ((nst s (cn s)).2.1) = false) (q3 : (mk s (cn s)) = false) : Gives P 11 #[.string s] (.tuple #[.int .i64 (nvG s).1, .int .i64 (nvG s).2]) := by
  refine gives_of_run (E := (wn_EG s hs hg)) (lv := 1) (ds := (.n 0 :: (.b false :: (.b false :: (.b false :: (.b false :: [])))))) (v := .tuple #[.int .i64 ((nst s (cn s)).1), .int .i64 0]) (ps := [Code.loop wn_b = innerOf P 11 0, (.int .i64 0 : Value) = .int .i64 ((nst s 0).1), (.bool false : Value) = .bool (mk s 0), (.bool false : Value) = .bool ((nst s 0).2.1), (.int .i64 0 : Value) = .int .i64 (((nst s 0).2.2 : Nat) : Int), (.int .i64 0 : Value) = .int .i64 0, (.ptr 6 0 : SV) = .ptr 6 0, s = s, 0 = ps s 0, ((((nst s (cn s)).2.2 : Nat) : Int) == 0) = false, (decide ((((nst s (cn s)).2.2 : Nat) : Int) > 20)) = false, ((nst s (cn s)).2.1) = false, (mk s (cn s)) = false]) mo (by kernel_rfl) (ps_cons (by kernel_rfl) (ps_cons rfl (ps_cons (by rfl) (ps_cons rfl (ps_cons rfl (ps_cons rfl (ps_cons rfl (ps_cons rfl (ps_cons rfl (ps_cons q0 (ps_cons q1 (ps_cons q2 (ps_cons q3 ps_nil))))))))))))) ?_
  have p0 := ne_of_beq_false q0
  have p1 := of_decide_eq_false q1
  have e : nvG s = ((nst s (cn s)).1, 0) := by unfold nvG; rw [if_neg (by omega), if_neg (by rw [q2]; simp), if_neg (by rw [← mk_end, q3]; simp)]
  rw [e]
theorem wn_good (s : ByteArray) (hs : s.size ≤ 1000000) (hg : ∀ j, j < cn s → good s j = true) : Gives P 11 #[.string s] (.tuple #[.int .i64 (nvG s).1, .int .i64 (nvG s).2]) := by
  cases q0 : ((((nst s (cn s)).2.2 : Nat) : Int) == 0) with
  | true =>
    exact wq0_leaf s hs hg q0
  | false =>
    cases q1 : (decide ((((nst s (cn s)).2.2 : Nat) : Int) > 20)) with
    | true =>
      exact wq1_leaf s hs hg q0 q1
    | false =>
      cases q2 : ((nst s (cn s)).2.1) with
      | true =>
        exact wq2_leaf s hs hg q0 q1 q2
      | false =>
        cases q3 : (mk s (cn s)) with
        | true =>
          exact wq3_leaf s hs hg q0 q1 q2 q3
        | false =>
          exact wq4_leaf s hs hg q0 q1 q2 q3
theorem wn_bad (s : ByteArray) (hs : s.size ≤ 1000000) (b : Nat) (hb : b < cn s) (hg : ∀ j, j < b → good s j = true) (hbad : good s b = false) : Gives P 11 #[.string s] (.tuple #[.int .i64 0, .int .i64 12]) :=
  gives_of_run (E := (wn_EB s hs b hb hg hbad)) (lv := 2) (ds := (.n 0 :: [])) (v := .tuple #[.int .i64 0, .int .i64 12]) (ps := [Code.loop wn_b = innerOf P 11 0, (.int .i64 0 : Value) = .int .i64 ((nst s 0).1), (.bool false : Value) = .bool (mk s 0), (.bool false : Value) = .bool ((nst s 0).2.1), (.int .i64 0 : Value) = .int .i64 (((nst s 0).2.2 : Nat) : Int), (.int .i64 0 : Value) = .int .i64 0, (.ptr 6 0 : SV) = .ptr 6 0, s = s, 0 = ps s 0]) mo (by kernel_rfl) (ps_cons (by kernel_rfl) (ps_cons rfl (ps_cons (by rfl) (ps_cons rfl (ps_cons rfl (ps_cons rfl (ps_cons rfl (ps_cons rfl (ps_cons rfl ps_nil))))))))) rfl
def k0 (s : ByteArray) : Nat := if mi s then 1 else 0
end Go.Tx
