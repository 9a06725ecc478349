/-
  Words: numbers. Printed by wdE.py.
-/
import Derived.Test.YtpeepbgpcmodcaaDoorTxD
set_option maxRecDepth 100000
namespace Go.Tx
open Go Go.RowKit Go.Sx Go.Proofs
noncomputable def Z5 : Env P := ⟨⟨[wd_c], [], []⟩, [], 10, []⟩
noncomputable def Z6 : Env P := ⟨⟨[nx_c, rd_c], [], []⟩, [], 10, []⟩
def mn (c : Int) : Bool := (c == 45) || (c == 8722)
def mi (s : ByteArray) : Bool := decide (0 < cn s) && mn (rn s 0)
def sk (s : ByteArray) (k : Nat) : Bool := (k == 0) && mi s
def ov (n d : Int) : Bool := decide (n > IntKind.i64.wrap ((IntKind.i64.wrap (1152921504606846976 - d)).tdiv 10))
def ad (n d : Int) : Int := IntKind.i64.wrap (IntKind.i64.wrap (10 * n) + d)
def nst (s : ByteArray) : Nat → Int × Bool × Nat
  | 0 => (0, false, 0)
  | k + 1 => if sk s k then nst s k else
      (if (nst s k).2.1 || ov (nst s k).1 (dg (rn s k)) then (nst s k).1 else ad (nst s k).1 (dg (rn s k)), (nst s k).2.1 || ov (nst s k).1 (dg (rn s k)), (nst s k).2.2 + 1)
def good (s : ByteArray) (k : Nat) : Bool := sk s k || decide (0 ≤ dg (rn s k))
theorem nst_le (s : ByteArray) : ∀ k, (nst s k).2.2 ≤ k
  | 0 => Nat.le_refl _
  | k + 1 => by
    have := nst_le s k
    simp only [nst]
    split
    · omega
    · dsimp only; omega
theorem nst_sk {s : ByteArray} {k : Nat} (h : sk s k = true) : nst s (k + 1) = nst s k := by
  rw [nst, if_pos h]
theorem nst_o {s : ByteArray} {k : Nat} (h : sk s k = false) (ho : (nst s k).2.1 = true) : nst s (k + 1) = ((nst s k).1, true, (nst s k).2.2 + 1) := by
  rw [nst, if_neg (by rw [h]; simp), ho]
  rfl
theorem nst_v {s : ByteArray} {k : Nat} (h : sk s k = false) (hv : ov (nst s k).1 (dg (rn s k)) = true) : nst s (k + 1) = ((nst s k).1, true, (nst s k).2.2 + 1) := by
  rw [nst, if_neg (by rw [h]; simp), hv, Bool.or_true]
  rfl
theorem nst_d {s : ByteArray} {k : Nat} (h : sk s k = false) (ho : (nst s k).2.1 = false) (hv : ov (nst s k).1 (dg (rn s k)) = false) : nst s (k + 1) = (ad (nst s k).1 (dg (rn s k)), false, (nst s k).2.2 + 1) := by
  rw [nst, if_neg (by rw [h]; simp), hv, ho]
  rfl
def mk (s : ByteArray) (k : Nat) : Bool := decide (0 < k) && mi s
noncomputable def wn_b : Code := bodyOf (innerOf P 11 0)
def wn_st (s : ByteArray) (n : Int) (m : Bool) (o : Bool) (y : Int) (e : Int) (p : Nat) : St := ⟨[(2, .v (.int .i64 n)), (4, .v (.bool m)), (5, .v (.bool o)), (6, .v (.int .i64 y)), (3, .v (.int .i64 e)), (12, .ptr 6 0)], [(6, (.iter s p, 0))], [], [6], []⟩
theorem wn_w0 (s : ByteArray) (n : Int) (m : Bool) (o : Bool) (y : Int) (e : Int) (p : Nat) (k_ : Nat) : stepF P Z5 1 64 wn_b (wn_st s n m o y e p) (.b true :: (.lit :: (.b true :: (.b true :: [])))) 1000 (fun _ => some (wn_st s n true o y e (p + (Utf8.decode s p).2))) k_ =
  some (.normal, k_, [p < s.size, ((p : Int) == 0) = true, (((Utf8.decode s p).1 : Int) == 45) = true, (.int .i64 n : Value) = .int .i64 n, (.bool true : Value) = .bool true, (.bool o : Value) = .bool o, (.int .i64 y : Value) = .int .i64 y, (.int .i64 e : Value) = .int .i64 e, (.ptr 6 0 : SV) = .ptr 6 0, s = s, p + (Utf8.decode s p).2 = p + (Utf8.decode s p).2]) := by kernel_rfl
theorem wn_w0_ok (s : ByteArray) (n : Int) (m : Bool) (o : Bool) (y : Int) (e : Int) (p : Nat) (q0 : p < s.size) (q1 : ((p : Int) == 0) = true) (q2 : (((Utf8.decode s p).1 : Int) == 45) = true)  {good : Out → St → Prop} (hg : ∀ S1, Keeps S1 (wn_st s n true o y e (p + (Utf8.decode s p).2)) → good .normal S1) : StepTo P Z5 1 64 wn_b (wn_st s n m o y e p) good :=
  step_run (wn_w0 s n m o y e p) (ps_cons q0 (ps_cons q1 (ps_cons q2 (ps_cons rfl (ps_cons rfl (ps_cons rfl (ps_cons rfl (ps_cons rfl (ps_cons rfl (ps_cons rfl (ps_cons rfl ps_nil))))))))))) rfl hg
theorem wn_w1 (s : ByteArray) (n : Int) (m : Bool) (o : Bool) (y : Int) (e : Int) (p : Nat) (k_ : Nat) : stepF P Z5 1 64 wn_b (wn_st s n m o y e p) (.b false :: []) 1000 (fun _ => some (wn_st s n m o y e p)) k_ =
  some ((.exit 0), k_, [¬ p < s.size, (.int .i64 n : Value) = .int .i64 n, (.bool m : Value) = .bool m, (.bool o : Value) = .bool o, (.int .i64 y : Value) = .int .i64 y, (.int .i64 e : Value) = .int .i64 e, (.ptr 6 0 : SV) = .ptr 6 0, s = s, p = p]) := by kernel_rfl
theorem wn_w1_ok (s : ByteArray) (n : Int) (m : Bool) (o : Bool) (y : Int) (e : Int) (p : Nat) (q0 : ¬ p < s.size)  {good : Out → St → Prop} (hg : ∀ S1, Keeps S1 (wn_st s n m o y e p) → good (.exit 0) S1) : StepTo P Z5 1 64 wn_b (wn_st s n m o y e p) good :=
  step_run (wn_w1 s n m o y e p) (ps_cons q0 (ps_cons rfl (ps_cons rfl (ps_cons rfl (ps_cons rfl (ps_cons rfl (ps_cons rfl (ps_cons rfl (ps_cons rfl ps_nil))))))))) rfl hg
theorem wn_w2 (s : ByteArray) (n : Int) (m : Bool) (o : Bool) (y : Int) (e : Int) (p : Nat) (k_ : Nat) : stepF P Z5 1 64 wn_b (wn_st s n m o y e p) (.b true :: (.lit :: (.b false :: (.lit :: (.lit :: (.b false :: (.b true :: []))))))) 1000 (fun _ => some (wn_st s n m true (IntKind.i64.wrap (y + 1)) e (p + (Utf8.decode s p).2))) k_ =
  some (.normal, k_, [p < s.size, ((p : Int) == 0) = false, rP [.int .i32 ((Utf8.decode s p).1 : Int)], (!(decide (0 ≤ dg ((Utf8.decode s p).1 : Int)))) = false, o = true, (.int .i64 n : Value) = .int .i64 n, (.bool m : Value) = .bool m, (.bool true : Value) = .bool true, (.int .i64 (IntKind.i64.wrap (y + 1)) : Value) = .int .i64 (IntKind.i64.wrap (y + 1)), (.int .i64 e : Value) = .int .i64 e, (.ptr 6 0 : SV) = .ptr 6 0, s = s, p + (Utf8.decode s p).2 = p + (Utf8.decode s p).2]) := by kernel_rfl
theorem wn_w2_ok (s : ByteArray) (n : Int) (m : Bool) (o : Bool) (y : Int) (e : Int) (p : Nat) (q0 : p < s.size) (q1 : ((p : Int) == 0) = false) (q2 : (decide (0 ≤ dg ((Utf8.decode s p).1 : Int))) = true) (q3 : (o) = true)  {good : Out → St → Prop} (hg : ∀ S1, Keeps S1 (wn_st s n m true (IntKind.i64.wrap (y + 1)) e (p + (Utf8.decode s p).2)) → good .normal S1) : StepTo P Z5 1 64 wn_b (wn_st s n m o y e p) good :=
  step_run (wn_w2 s n m o y e p) (ps_cons q0 (ps_cons q1 (ps_cons trivial (ps_cons (neg_f q2) (ps_cons q3 (ps_cons rfl (ps_cons rfl (ps_cons rfl (ps_cons rfl (ps_cons rfl (ps_cons rfl (ps_cons rfl (ps_cons rfl ps_nil))))))))))))) rfl hg
theorem wn_w3 (s : ByteArray) (n : Int) (m : Bool) (o : Bool) (y : Int) (e : Int) (p : Nat) (k_ : Nat) : stepF P Z5 1 64 wn_b (wn_st s n m o y e p) (.b true :: (.lit :: (.b false :: (.lit :: (.lit :: (.b true :: [])))))) 1000 (fun _ => some (wn_st s 0 m o y 12 (p + (Utf8.decode s p).2))) k_ =
  some (.ret, k_, [p < s.size, ((p : Int) == 0) = false, rP [.int .i32 ((Utf8.decode s p).1 : Int)], (!(decide (0 ≤ dg ((Utf8.decode s p).1 : Int)))) = true, (.int .i64 0 : Value) = .int .i64 0, (.bool m : Value) = .bool m, (.bool o : Value) = .bool o, (.int .i64 y : Value) = .int .i64 y, (.int .i64 12 : Value) = .int .i64 12, (.ptr 6 0 : SV) = .ptr 6 0, s = s, p + (Utf8.decode s p).2 = p + (Utf8.decode s p).2]) := by kernel_rfl
theorem wn_w3_ok (s : ByteArray) (n : Int) (m : Bool) (o : Bool) (y : Int) (e : Int) (p : Nat) (q0 : p < s.size) (q1 : ((p : Int) == 0) = false) (q2 : (decide (0 ≤ dg ((Utf8.decode s p).1 : Int))) = false)  {good : Out → St → Prop} (hg : ∀ S1, Keeps S1 (wn_st s 0 m o y 12 (p + (Utf8.decode s p).2)) → good .ret S1) : StepTo P Z5 1 64 wn_b (wn_st s n m o y e p) good :=
  step_run (wn_w3 s n m o y e p) (ps_cons q0 (ps_cons q1 (ps_cons trivial (ps_cons (neg_t q2) (ps_cons rfl (ps_cons rfl (ps_cons rfl (ps_cons rfl (ps_cons rfl (ps_cons rfl (ps_cons rfl (ps_cons rfl ps_nil)))))))))))) rfl hg
theorem wn_w4 (s : ByteArray) (n : Int) (m : Bool) (o : Bool) (y : Int) (e : Int) (p : Nat) (k_ : Nat) : stepF P Z5 1 64 wn_b (wn_st s n m o y e p) (.b true :: (.lit :: (.b false :: (.lit :: (.lit :: (.b false :: (.b false :: (.b false :: [])))))))) 1000 (fun _ => some (wn_st s n m (decide (n > IntKind.i64.wrap ((IntKind.i64.wrap (1152921504606846976 - (if dg ((Utf8.decode s p).1 : Int) < 0 then 0 else dg ((Utf8.decode s p).1 : Int)))).tdiv 10))) (IntKind.i64.wrap (y + 1)) e (p + (Utf8.decode s p).2))) k_ =
  some (.normal, k_, [p < s.size, ((p : Int) == 0) = false, rP [.int .i32 ((Utf8.decode s p).1 : Int)], (!(decide (0 ≤ dg ((Utf8.decode s p).1 : Int)))) = false, o = false, (!(decide (n > IntKind.i64.wrap ((IntKind.i64.wrap (1152921504606846976 - (if dg ((Utf8.decode s p).1 : Int) < 0 then 0 else dg ((Utf8.decode s p).1 : Int)))).tdiv 10)))) = false, (.int .i64 n : Value) = .int .i64 n, (.bool m : Value) = .bool m, (.bool (decide (n > IntKind.i64.wrap ((IntKind.i64.wrap (1152921504606846976 - (if dg ((Utf8.decode s p).1 : Int) < 0 then 0 else dg ((Utf8.decode s p).1 : Int)))).tdiv 10))) : Value) = .bool (decide (n > IntKind.i64.wrap ((IntKind.i64.wrap (1152921504606846976 - (if dg ((Utf8.decode s p).1 : Int) < 0 then 0 else dg ((Utf8.decode s p).1 : Int)))).tdiv 10))), (.int .i64 (IntKind.i64.wrap (y + 1)) : Value) = .int .i64 (IntKind.i64.wrap (y + 1)), (.int .i64 e : Value) = .int .i64 e, (.ptr 6 0 : SV) = .ptr 6 0, s = s, p + (Utf8.decode s p).2 = p + (Utf8.decode s p).2]) := by kernel_rfl
theorem wn_w4_ok (s : ByteArray) (n : Int) (m : Bool) (o : Bool) (y : Int) (e : Int) (p : Nat) (q0 : p < s.size) (q1 : ((p : Int) == 0) = false) (q2 : (decide (0 ≤ dg ((Utf8.decode s p).1 : Int))) = true) (q3 : (o) = false) (q4 : (decide (n > IntKind.i64.wrap ((IntKind.i64.wrap (1152921504606846976 - (if dg ((Utf8.decode s p).1 : Int) < 0 then 0 else dg ((Utf8.decode s p).1 : Int)))).tdiv 10))) = true)  {good : Out → St → Prop} (hg : ∀ S1, Keeps S1 (wn_st s n m (decide (n > IntKind.i64.wrap ((IntKind.i64.wrap (1152921504606846976 - (if dg ((Utf8.decode s p).1 : Int) < 0 then 0 else dg ((Utf8.decode s p).1 : Int)))).tdiv 10))) (IntKind.i64.wrap (y + 1)) e (p + (Utf8.decode s p).2)) → good .normal S1) : StepTo P Z5 1 64 wn_b (wn_st s n m o y e p) good :=
  step_run (wn_w4 s n m o y e p) (ps_cons q0 (ps_cons q1 (ps_cons trivial (ps_cons (neg_f q2) (ps_cons q3 (ps_cons (neg_f q4) (ps_cons rfl (ps_cons rfl (ps_cons rfl (ps_cons rfl (ps_cons rfl (ps_cons rfl (ps_cons rfl (ps_cons rfl ps_nil)))))))))))))) rfl hg
theorem wn_w5 (s : ByteArray) (n : Int) (m : Bool) (o : Bool) (y : Int) (e : Int) (p : Nat) (k_ : Nat) : stepF P Z5 1 64 wn_b (wn_st s n m o y e p) (.b true :: (.lit :: (.b false :: (.lit :: (.lit :: (.b false :: (.b false :: (.b true :: [])))))))) 1000 (fun _ => some (wn_st s (IntKind.i64.wrap (IntKind.i64.wrap (10 * n) + (if dg ((Utf8.decode s p).1 : Int) < 0 then 0 else dg ((Utf8.decode s p).1 : Int)))) m (decide (n > IntKind.i64.wrap ((IntKind.i64.wrap (1152921504606846976 - (if dg ((Utf8.decode s p).1 : Int) < 0 then 0 else dg ((Utf8.decode s p).1 : Int)))).tdiv 10))) (IntKind.i64.wrap (y + 1)) e (p + (Utf8.decode s p).2))) k_ =
  some (.normal, k_, [p < s.size, ((p : Int) == 0) = false, rP [.int .i32 ((Utf8.decode s p).1 : Int)], (!(decide (0 ≤ dg ((Utf8.decode s p).1 : Int)))) = false, o = false, (!(decide (n > IntKind.i64.wrap ((IntKind.i64.wrap (1152921504606846976 - (if dg ((Utf8.decode s p).1 : Int) < 0 then 0 else dg ((Utf8.decode s p).1 : Int)))).tdiv 10)))) = true, (.int .i64 (IntKind.i64.wrap (IntKind.i64.wrap (10 * n) + (if dg ((Utf8.decode s p).1 : Int) < 0 then 0 else dg ((Utf8.decode s p).1 : Int)))) : Value) = .int .i64 (IntKind.i64.wrap (IntKind.i64.wrap (10 * n) + (if dg ((Utf8.decode s p).1 : Int) < 0 then 0 else dg ((Utf8.decode s p).1 : Int)))), (.bool m : Value) = .bool m, (.bool (decide (n > IntKind.i64.wrap ((IntKind.i64.wrap (1152921504606846976 - (if dg ((Utf8.decode s p).1 : Int) < 0 then 0 else dg ((Utf8.decode s p).1 : Int)))).tdiv 10))) : Value) = .bool (decide (n > IntKind.i64.wrap ((IntKind.i64.wrap (1152921504606846976 - (if dg ((Utf8.decode s p).1 : Int) < 0 then 0 else dg ((Utf8.decode s p).1 : Int)))).tdiv 10))), (.int .i64 (IntKind.i64.wrap (y + 1)) : Value) = .int .i64 (IntKind.i64.wrap (y + 1)), (.int .i64 e : Value) = .int .i64 e, (.ptr 6 0 : SV) = .ptr 6 0, s = s, p + (Utf8.decode s p).2 = p + (Utf8.decode s p).2]) := by kernel_rfl
theorem wn_w5_ok (s : ByteArray) (n : Int) (m : Bool) (o : Bool) (y : Int) (e : Int) (p : Nat) (q0 : p < s.size) (q1 : ((p : Int) == 0) = false) (q2 : (decide (0 ≤ dg ((Utf8.decode s p).1 : Int))) = true) (q3 : (o) = false) (q4 : (decide (n > IntKind.i64.wrap ((IntKind.i64.wrap (1152921504606846976 - (if dg ((Utf8.decode s p).1 : Int) < 0 then 0 else dg ((Utf8.decode s p).1 : Int)))).tdiv 10))) = false)  {good : Out → St → Prop} (hg : ∀ S1, Keeps S1 (wn_st s (IntKind.i64.wrap (IntKind.i64.wrap (10 * n) + (if dg ((Utf8.decode s p).1 : Int) < 0 then 0 else dg ((Utf8.decode s p).1 : Int)))) m (decide (n > IntKind.i64.wrap ((IntKind.i64.wrap (1152921504606846976 - (if dg ((Utf8.decode s p).1 : Int) < 0 then 0 else dg ((Utf8.decode s p).1 : Int)))).tdiv 10))) (IntKind.i64.wrap (y + 1)) e (p + (Utf8.decode s p).2)) → good .normal S1) : StepTo P Z5 1 64 wn_b (wn_st s n m o y e p) good :=
  step_run (wn_w5 s n m o y e p) (ps_cons q0 (ps_cons q1 (ps_cons trivial (ps_cons (neg_f q2) (ps_cons q3 (ps_cons (neg_t q4) (ps_cons rfl (ps_cons rfl (ps_cons rfl (ps_cons rfl (ps_cons rfl (ps_cons rfl (ps_cons rfl (ps_cons rfl ps_nil)))))))))))))) rfl hg
theorem wn_w6 (s : ByteArray) (n : Int) (m : Bool) (o : Bool) (y : Int) (e : Int) (p : Nat) (k_ : Nat) : stepF P Z5 1 64 wn_b (wn_st s n m o y e p) (.b true :: (.lit :: (.b true :: (.b false :: (.b true :: []))))) 1000 (fun _ => some (wn_st s n true o y e (p + (Utf8.decode s p).2))) k_ =
  some (.normal, k_, [p < s.size, ((p : Int) == 0) = true, (((Utf8.decode s p).1 : Int) == 45) = false, (((Utf8.decode s p).1 : Int) == 8722) = true, (.int .i64 n : Value) = .int .i64 n, (.bool true : Value) = .bool true, (.bool o : Value) = .bool o, (.int .i64 y : Value) = .int .i64 y, (.int .i64 e : Value) = .int .i64 e, (.ptr 6 0 : SV) = .ptr 6 0, s = s, p + (Utf8.decode s p).2 = p + (Utf8.decode s p).2]) := by kernel_rfl
theorem wn_w6_ok (s : ByteArray) (n : Int) (m : Bool) (o : Bool) (y : Int) (e : Int) (p : Nat) (q0 : p < s.size) (q1 : ((p : Int) == 0) = true) (q2 : (((Utf8.decode s p).1 : Int) == 45) = false) (q3 : (((Utf8.decode s p).1 : Int) == 8722) = true)  {good : Out → St → Prop} (hg : ∀ S1, Keeps S1 (wn_st s n true o y e (p + (Utf8.decode s p).2)) → good .normal S1) : StepTo P Z5 1 64 wn_b (wn_st s n m o y e p) good :=
  step_run (wn_w6 s n m o y e p) (ps_cons q0 (ps_cons q1 (ps_cons q2 (ps_cons q3 (ps_cons rfl (ps_cons rfl (ps_cons rfl (ps_cons rfl (ps_cons rfl (ps_cons rfl (ps_cons rfl (ps_cons rfl ps_nil)))))))))))) rfl hg
theorem wn_w7 (s : ByteArray) (n : Int) (m : Bool) (o : Bool) (y : Int) (e : Int) (p : Nat) (k_ : Nat) : stepF P Z5 1 64 wn_b (wn_st s n m o y e p) (.b true :: (.lit :: (.b true :: (.b false :: (.b false :: (.b false :: (.b true :: []))))))) 1000 (fun _ => some (wn_st s n m true (IntKind.i64.wrap (y + 1)) e (p + (Utf8.decode s p).2))) k_ =
  some (.normal, k_, [p < s.size, ((p : Int) == 0) = true, (((Utf8.decode s p).1 : Int) == 45) = false, (((Utf8.decode s p).1 : Int) == 8722) = false, rP [.int .i32 ((Utf8.decode s p).1 : Int)], (!(decide (0 ≤ dg ((Utf8.decode s p).1 : Int)))) = false, o = true, (.int .i64 n : Value) = .int .i64 n, (.bool m : Value) = .bool m, (.bool true : Value) = .bool true, (.int .i64 (IntKind.i64.wrap (y + 1)) : Value) = .int .i64 (IntKind.i64.wrap (y + 1)), (.int .i64 e : Value) = .int .i64 e, (.ptr 6 0 : SV) = .ptr 6 0, s = s, p + (Utf8.decode s p).2 = p + (Utf8.decode s p).2]) := by kernel_rfl
theorem wn_w7_ok (s : ByteArray) (n : Int) (m : Bool) (o : Bool) (y : Int) (e : Int) (p : Nat) (q0 : p < s.size) (q1 : ((p : Int) == 0) = true) (q2 : (((Utf8.decode s p).1 : Int) == 45) = false) (q3 : (((Utf8.decode s p).1 : Int) == 8722) = false) (q4 : (decide (0 ≤ dg ((Utf8.decode s p).1 : Int))) = true) (q5 : (o) = true)  {good : Out → St → Prop} (hg : ∀ S1, Keeps S1 (wn_st s n m true (IntKind.i64.wrap (y + 1)) e (p + (Utf8.decode s p).2)) → good .normal S1) : StepTo P Z5 1 64 wn_b (wn_st s n m o y e p) good :=
  step_run (wn_w7 s n m o y e p) (ps_cons q0 (ps_cons q1 (ps_cons q2 (ps_cons q3 (ps_cons trivial (ps_cons (neg_f q4) (ps_cons q5 (ps_cons rfl (ps_cons rfl (ps_cons rfl (ps_cons rfl (ps_cons rfl (ps_cons rfl (ps_cons rfl (ps_cons rfl ps_nil))))))))))))))) rfl hg
theorem wn_w8 (s : ByteArray) (n : Int) (m : Bool) (o : Bool) (y : Int) (e : Int) (p : Nat) (k_ : Nat) : stepF P Z5 1 64 wn_b (wn_st s n m o y e p) (.b true :: (.lit :: (.b true :: (.b false :: (.b false :: (.b true :: [])))))) 1000 (fun _ => some (wn_st s 0 m o y 12 (p + (Utf8.decode s p).2))) k_ =
  some (.ret, k_, [p < s.size, ((p : Int) == 0) = true, (((Utf8.decode s p).1 : Int) == 45) = false, (((Utf8.decode s p).1 : Int) == 8722) = false, rP [.int .i32 ((Utf8.decode s p).1 : Int)], (!(decide (0 ≤ dg ((Utf8.decode s p).1 : Int)))) = true, (.int .i64 0 : Value) = .int .i64 0, (.bool m : Value) = .bool m, (.bool o : Value) = .bool o, (.int .i64 y : Value) = .int .i64 y, (.int .i64 12 : Value) = .int .i64 12, (.ptr 6 0 : SV) = .ptr 6 0, s = s, p + (Utf8.decode s p).2 = p + (Utf8.decode s p).2]) := by kernel_rfl
theorem wn_w8_ok (s : ByteArray) (n : Int) (m : Bool) (o : Bool) (y : Int) (e : Int) (p : Nat) (q0 : p < s.size) (q1 : ((p : Int) == 0) = true) (q2 : (((Utf8.decode s p).1 : Int) == 45) = false) (q3 : (((Utf8.decode s p).1 : Int) == 8722) = false) (q4 : (decide (0 ≤ dg ((Utf8.decode s p).1 : Int))) = false)  {good : Out → St → Prop} (hg : ∀ S1, Keeps S1 (wn_st s 0 m o y 12 (p + (Utf8.decode s p).2)) → good .ret S1) : StepTo P Z5 1 64 wn_b (wn_st s n m o y e p) good :=
  step_run (wn_w8 s n m o y e p) (ps_cons q0 (ps_cons q1 (ps_cons q2 (ps_cons q3 (ps_cons trivial (ps_cons (neg_t q4) (ps_cons rfl (ps_cons rfl (ps_cons rfl (ps_cons rfl (ps_cons rfl (ps_cons rfl (ps_cons rfl (ps_cons rfl ps_nil)))))))))))))) rfl hg
theorem wn_w9 (s : ByteArray) (n : Int) (m : Bool) (o : Bool) (y : Int) (e : Int) (p : Nat) (k_ : Nat) : stepF P Z5 1 64 wn_b (wn_st s n m o y e p) (.b true :: (.lit :: (.b true :: (.b false :: (.b false :: (.b false :: (.b false :: (.b false :: [])))))))) 1000 (fun _ => some (wn_st s n m (decide (n > IntKind.i64.wrap ((IntKind.i64.wrap (1152921504606846976 - (if dg ((Utf8.decode s p).1 : Int) < 0 then 0 else dg ((Utf8.decode s p).1 : Int)))).tdiv 10))) (IntKind.i64.wrap (y + 1)) e (p + (Utf8.decode s p).2))) k_ =
  some (.normal, k_, [p < s.size, ((p : Int) == 0) = true, (((Utf8.decode s p).1 : Int) == 45) = false, (((Utf8.decode s p).1 : Int) == 8722) = false, rP [.int .i32 ((Utf8.decode s p).1 : Int)], (!(decide (0 ≤ dg ((Utf8.decode s p).1 : Int)))) = false, o = false, (!(decide (n > IntKind.i64.wrap ((IntKind.i64.wrap (1152921504606846976 - (if dg ((Utf8.decode s p).1 : Int) < 0 then 0 else dg ((Utf8.decode s p).1 : Int)))).tdiv 10)))) = false, (.int .i64 n : Value) = .int .i64 n, (.bool m : Value) = .bool m, (.bool (decide (n > IntKind.i64.wrap ((IntKind.i64.wrap (1152921504606846976 - (if dg ((Utf8.decode s p).1 : Int) < 0 then 0 else dg ((Utf8.decode s p).1 : Int)))).tdiv 10))) : Value) = .bool (decide (n > IntKind.i64.wrap ((IntKind.i64.wrap (1152921504606846976 - (if dg ((Utf8.decode s p).1 : Int) < 0 then 0 else dg ((Utf8.decode s p).1 : Int)))).tdiv 10))), (.int .i64 (IntKind.i64.wrap (y + 1)) : Value) = .int .i64 (IntKind.i64.wrap (y + 1)), (.int .i64 e : Value) = .int .i64 e, (.ptr 6 0 : SV) = .ptr 6 0, s = s, p + (Utf8.decode s p).2 = p + (Utf8.decode s p).2]) := by kernel_rfl
theorem wn_w9_ok (s : ByteArray) (n : Int) (m : Bool) (o : Bool) (y : Int) (e : Int) (p : Nat) (q0 : p < s.size) (q1 : ((p : Int) == 0) = true) (q2 : (((Utf8.decode s p).1 : Int) == 45) = false) (q3 : (((Utf8.decode s p).1 : Int) == 8722) = false) (q4 : (decide (0 ≤ dg ((Utf8.decode s p).1 : Int))) = true) (q5 : (o) = false) (q6 : (decide (n > IntKind.i64.wrap ((IntKind.i64.wrap (1152921504606846976 - (if dg ((Utf8.decode s p).1 : Int) < 0 then 0 else dg ((Utf8.decode s p).1 : Int)))).tdiv 10))) = true)  {good : Out → St → Prop} (hg : ∀ S1, Keeps S1 (wn_st s n m (decide (n > IntKind.i64.wrap ((IntKind.i64.wrap (1152921504606846976 - (if dg ((Utf8.decode s p).1 : Int) < 0 then 0 else dg ((Utf8.decode s p).1 : Int)))).tdiv 10))) (IntKind.i64.wrap (y + 1)) e (p + (Utf8.decode s p).2)) → good .normal S1) : StepTo P Z5 1 64 wn_b (wn_st s n m o y e p) good :=
  step_run (wn_w9 s n m o y e p) (ps_cons q0 (ps_cons q1 (ps_cons q2 (ps_cons q3 (ps_cons trivial (ps_cons (neg_f q4) (ps_cons q5 (ps_cons (neg_f q6) (ps_cons rfl (ps_cons rfl (ps_cons rfl (ps_cons rfl (ps_cons rfl (ps_cons rfl (ps_cons rfl (ps_cons rfl ps_nil)))))))))))))))) rfl hg
theorem wn_w10 (s : ByteArray) (n : Int) (m : Bool) (o : Bool) (y : Int) (e : Int) (p : Nat) (k_ : Nat) : stepF P Z5 1 64 wn_b (wn_st s n m o y e p) (.b true :: (.lit :: (.b true :: (.b false :: (.b false :: (.b false :: (.b false :: (.b true :: [])))))))) 1000 (fun _ => some (wn_st s (IntKind.i64.wrap (IntKind.i64.wrap (10 * n) + (if dg ((Utf8.decode s p).1 : Int) < 0 then 0 else dg ((Utf8.decode s p).1 : Int)))) m (decide (n > IntKind.i64.wrap ((IntKind.i64.wrap (1152921504606846976 - (if dg ((Utf8.decode s p).1 : Int) < 0 then 0 else dg ((Utf8.decode s p).1 : Int)))).tdiv 10))) (IntKind.i64.wrap (y + 1)) e (p + (Utf8.decode s p).2))) k_ =
  some (.normal, k_, [p < s.size, ((p : Int) == 0) = true, (((Utf8.decode s p).1 : Int) == 45) = false, (((Utf8.decode s p).1 : Int) == 8722) = false, rP [.int .i32 ((Utf8.decode s p).1 : Int)], (!(decide (0 ≤ dg ((Utf8.decode s p).1 : Int)))) = false, o = false, (!(decide (n > IntKind.i64.wrap ((IntKind.i64.wrap (1152921504606846976 - (if dg ((Utf8.decode s p).1 : Int) < 0 then 0 else dg ((Utf8.decode s p).1 : Int)))).tdiv 10)))) = true, (.int .i64 (IntKind.i64.wrap (IntKind.i64.wrap (10 * n) + (if dg ((Utf8.decode s p).1 : Int) < 0 then 0 else dg ((Utf8.decode s p).1 : Int)))) : Value) = .int .i64 (IntKind.i64.wrap (IntKind.i64.wrap (10 * n) + (if dg ((Utf8.decode s p).1 : Int) < 0 then 0 else dg ((Utf8.decode s p).1 : Int)))), (.bool m : Value) = .bool m, (.bool (decide (n > IntKind.i64.wrap ((IntKind.i64.wrap (1152921504606846976 - (if dg ((Utf8.decode s p).1 : Int) < 0 then 0 else dg ((Utf8.decode s p).1 : Int)))).tdiv 10))) : Value) = .bool (decide (n > IntKind.i64.wrap ((IntKind.i64.wrap (1152921504606846976 - (if dg ((Utf8.decode s p).1 : Int) < 0 then 0 else dg ((Utf8.decode s p).1 : Int)))).tdiv 10))), (.int .i64 (IntKind.i64.wrap (y + 1)) : Value) = .int .i64 (IntKind.i64.wrap (y + 1)), (.int .i64 e : Value) = .int .i64 e, (.ptr 6 0 : SV) = .ptr 6 0, s = s, p + (Utf8.decode s p).2 = p + (Utf8.decode s p).2]) := by kernel_rfl
theorem wn_w10_ok (s : ByteArray) (n : Int) (m : Bool) (o : Bool) (y : Int) (e : Int) (p : Nat) (q0 : p < s.size) (q1 : ((p : Int) == 0) = true) (q2 : (((Utf8.decode s p).1 : Int) == 45) = false) (q3 : (((Utf8.decode s p).1 : Int) == 8722) = false) (q4 : (decide (0 ≤ dg ((Utf8.decode s p).1 : Int))) = true) (q5 : (o) = false) (q6 : (decide (n > IntKind.i64.wrap ((IntKind.i64.wrap (1152921504606846976 - (if dg ((Utf8.decode s p).1 : Int) < 0 then 0 else dg ((Utf8.decode s p).1 : Int)))).tdiv 10))) = false)  {good : Out → St → Prop} (hg : ∀ S1, Keeps S1 (wn_st s (IntKind.i64.wrap (IntKind.i64.wrap (10 * n) + (if dg ((Utf8.decode s p).1 : Int) < 0 then 0 else dg ((Utf8.decode s p).1 : Int)))) m (decide (n > IntKind.i64.wrap ((IntKind.i64.wrap (1152921504606846976 - (if dg ((Utf8.decode s p).1 : Int) < 0 then 0 else dg ((Utf8.decode s p).1 : Int)))).tdiv 10))) (IntKind.i64.wrap (y + 1)) e (p + (Utf8.decode s p).2)) → good .normal S1) : StepTo P Z5 1 64 wn_b (wn_st s n m o y e p) good :=
  step_run (wn_w10 s n m o y e p) (ps_cons q0 (ps_cons q1 (ps_cons q2 (ps_cons q3 (ps_cons trivial (ps_cons (neg_f q4) (ps_cons q5 (ps_cons (neg_t q6) (ps_cons rfl (ps_cons rfl (ps_cons rfl (ps_cons rfl (ps_cons rfl (ps_cons rfl (ps_cons rfl (ps_cons rfl ps_nil)))))))))))))))) rfl hg
noncomputable def rm_b : Code := bodyOf (innerOf P 12 0)
def rm_st (g : Bool) (t : ByteArray) (n : Int) (y : Int) (o : Bool) (v : Int) (e : Int) : St := ⟨[(0, .v (.string t)), (8, .v (.int .i64 n)), (9, .v (.int .i64 y)), (10, .v (.bool o)), (2, .v (.int .i64 v)), (3, .v (.int .i64 e)), (7, .v (.bool g))], [], [], [], []⟩
theorem rm_w0 (g : Bool) (t : ByteArray) (n : Int) (y : Int) (o : Bool) (v : Int) (e : Int) (k_ : Nat) : stepF P Z6 1 78 rm_b (rm_st g t n y o v e) (.b true :: (.b true :: [])) 1000 (fun _ => some (rm_st g t n y o 0 12)) k_ =
  some (.ret, k_, [(decide (((t.size : Nat) : Int) > 0)) = true, sP (fun _ => True) [.string t], (bd t) = true, (.string t : Value) = .string t, (.int .i64 n : Value) = .int .i64 n, (.int .i64 y : Value) = .int .i64 y, (.bool o : Value) = .bool o, (.int .i64 0 : Value) = .int .i64 0, (.int .i64 12 : Value) = .int .i64 12, (.bool g : Value) = .bool g]) := by kernel_rfl
theorem rm_w0_ok (g : Bool) (t : ByteArray) (n : Int) (y : Int) (o : Bool) (v : Int) (e : Int) (q0 : (decide (((t.size : Nat) : Int) > 0)) = true) (q1 : (bd t) = true)  {good : Out → St → Prop} (hg : ∀ S1, Keeps S1 (rm_st g t n y o 0 12) → good .ret S1) : StepTo P Z6 1 78 rm_b (rm_st g t n y o v e) good :=
  step_run (rm_w0 g t n y o v e) (ps_cons q0 (ps_cons trivial (ps_cons q1 (ps_cons rfl (ps_cons rfl (ps_cons rfl (ps_cons rfl (ps_cons rfl (ps_cons rfl (ps_cons rfl ps_nil)))))))))) rfl hg
theorem rm_w1 (g : Bool) (t : ByteArray) (n : Int) (y : Int) (o : Bool) (v : Int) (e : Int) (k_ : Nat) : stepF P Z6 1 78 rm_b (rm_st g t n y o v e) (.b false :: []) 1000 (fun _ => some (rm_st g t n y o v e)) k_ =
  some ((.exit 0), k_, [(decide (((t.size : Nat) : Int) > 0)) = false, (.string t : Value) = .string t, (.int .i64 n : Value) = .int .i64 n, (.int .i64 y : Value) = .int .i64 y, (.bool o : Value) = .bool o, (.int .i64 v : Value) = .int .i64 v, (.int .i64 e : Value) = .int .i64 e, (.bool g : Value) = .bool g]) := by kernel_rfl
theorem rm_w1_ok (g : Bool) (t : ByteArray) (n : Int) (y : Int) (o : Bool) (v : Int) (e : Int) (q0 : (decide (((t.size : Nat) : Int) > 0)) = false)  {good : Out → St → Prop} (hg : ∀ S1, Keeps S1 (rm_st g t n y o v e) → good (.exit 0) S1) : StepTo P Z6 1 78 rm_b (rm_st g t n y o v e) good :=
  step_run (rm_w1 g t n y o v e) (ps_cons q0 (ps_cons rfl (ps_cons rfl (ps_cons rfl (ps_cons rfl (ps_cons rfl (ps_cons rfl (ps_cons rfl ps_nil)))))))) rfl hg
theorem rm_w2 (g : Bool) (t : ByteArray) (n : Int) (y : Int) (o : Bool) (v : Int) (e : Int) (k_ : Nat) : stepF P Z6 1 78 rm_b (rm_st g t n y o v e) (.b true :: (.b false :: (.b true :: []))) 1000 (fun _ => some (rm_st g t n y o 0 12)) k_ =
  some (.ret, k_, [(decide (((t.size : Nat) : Int) > 0)) = true, sP (fun _ => True) [.string t], (bd t) = false, rP [.int .i32 (c1 t)], (decide (dg (c1 t) < 0)) = true, (.string t : Value) = .string t, (.int .i64 n : Value) = .int .i64 n, (.int .i64 y : Value) = .int .i64 y, (.bool o : Value) = .bool o, (.int .i64 0 : Value) = .int .i64 0, (.int .i64 12 : Value) = .int .i64 12, (.bool g : Value) = .bool g]) := by kernel_rfl
theorem rm_w2_ok (g : Bool) (t : ByteArray) (n : Int) (y : Int) (o : Bool) (v : Int) (e : Int) (q0 : (decide (((t.size : Nat) : Int) > 0)) = true) (q1 : (bd t) = false) (q2 : (decide (dg (c1 t) < 0)) = true)  {good : Out → St → Prop} (hg : ∀ S1, Keeps S1 (rm_st g t n y o 0 12) → good .ret S1) : StepTo P Z6 1 78 rm_b (rm_st g t n y o v e) good :=
  step_run (rm_w2 g t n y o v e) (ps_cons q0 (ps_cons trivial (ps_cons q1 (ps_cons trivial (ps_cons q2 (ps_cons rfl (ps_cons rfl (ps_cons rfl (ps_cons rfl (ps_cons rfl (ps_cons rfl (ps_cons rfl ps_nil)))))))))))) rfl hg
theorem rm_w3 (g : Bool) (t : ByteArray) (n : Int) (y : Int) (o : Bool) (v : Int) (e : Int) (k_ : Nat) : stepF P Z6 1 78 rm_b (rm_st g t n y o v e) (.b true :: (.b false :: (.b false :: (.b true :: [])))) 1000 (fun _ => some (rm_st g (t.extract (n1 t : Int).toNat t.size) n (IntKind.i64.wrap (y + 1)) true v e)) k_ =
  some (.normal, k_, [(decide (((t.size : Nat) : Int) > 0)) = true, sP (fun _ => True) [.string t], (bd t) = false, rP [.int .i32 (c1 t)], (decide (dg (c1 t) < 0)) = false, rP [.int .i32 (c1 t)], (decide (n > IntKind.i64.wrap ((IntKind.i64.wrap (1152921504606846976 - (dg (c1 t)))).tdiv 10))) = true, 0 ≤ n1 t ∧ n1 t ≤ ((t.size : Nat) : Int), (.string (t.extract (n1 t : Int).toNat t.size) : Value) = .string (t.extract (n1 t : Int).toNat t.size), (.int .i64 n : Value) = .int .i64 n, (.int .i64 (IntKind.i64.wrap (y + 1)) : Value) = .int .i64 (IntKind.i64.wrap (y + 1)), (.bool true : Value) = .bool true, (.int .i64 v : Value) = .int .i64 v, (.int .i64 e : Value) = .int .i64 e, (.bool g : Value) = .bool g]) := by kernel_rfl
theorem rm_w3_ok (g : Bool) (t : ByteArray) (n : Int) (y : Int) (o : Bool) (v : Int) (e : Int) (q0 : (decide (((t.size : Nat) : Int) > 0)) = true) (q1 : (bd t) = false) (q2 : (decide (dg (c1 t) < 0)) = false) (q3 : (decide (n > IntKind.i64.wrap ((IntKind.i64.wrap (1152921504606846976 - (dg (c1 t)))).tdiv 10))) = true) (x0 : 0 ≤ n1 t ∧ n1 t ≤ ((t.size : Nat) : Int)) {good : Out → St → Prop} (hg : ∀ S1, Keeps S1 (rm_st g (t.extract (n1 t : Int).toNat t.size) n (IntKind.i64.wrap (y + 1)) true v e) → good .normal S1) : StepTo P Z6 1 78 rm_b (rm_st g t n y o v e) good :=
  step_run (rm_w3 g t n y o v e) (ps_cons q0 (ps_cons trivial (ps_cons q1 (ps_cons trivial (ps_cons q2 (ps_cons trivial (ps_cons q3 (ps_cons x0 (ps_cons rfl (ps_cons rfl (ps_cons rfl (ps_cons rfl (ps_cons rfl (ps_cons rfl (ps_cons rfl ps_nil))))))))))))))) rfl hg
theorem rm_w4 (g : Bool) (t : ByteArray) (n : Int) (y : Int) (o : Bool) (v : Int) (e : Int) (k_ : Nat) : stepF P Z6 1 78 rm_b (rm_st g t n y o v e) (.b true :: (.b false :: (.b false :: (.b false :: (.b false :: []))))) 1000 (fun _ => some (rm_st g (t.extract (n1 t : Int).toNat t.size) n (IntKind.i64.wrap (y + 1)) o v e)) k_ =
  some (.normal, k_, [(decide (((t.size : Nat) : Int) > 0)) = true, sP (fun _ => True) [.string t], (bd t) = false, rP [.int .i32 (c1 t)], (decide (dg (c1 t) < 0)) = false, rP [.int .i32 (c1 t)], (decide (n > IntKind.i64.wrap ((IntKind.i64.wrap (1152921504606846976 - (dg (c1 t)))).tdiv 10))) = false, (!o) = false, 0 ≤ n1 t ∧ n1 t ≤ ((t.size : Nat) : Int), (.string (t.extract (n1 t : Int).toNat t.size) : Value) = .string (t.extract (n1 t : Int).toNat t.size), (.int .i64 n : Value) = .int .i64 n, (.int .i64 (IntKind.i64.wrap (y + 1)) : Value) = .int .i64 (IntKind.i64.wrap (y + 1)), (.bool o : Value) = .bool o, (.int .i64 v : Value) = .int .i64 v, (.int .i64 e : Value) = .int .i64 e, (.bool g : Value) = .bool g]) := by kernel_rfl
theorem rm_w4_ok (g : Bool) (t : ByteArray) (n : Int) (y : Int) (o : Bool) (v : Int) (e : Int) (q0 : (decide (((t.size : Nat) : Int) > 0)) = true) (q1 : (bd t) = false) (q2 : (decide (dg (c1 t) < 0)) = false) (q3 : (decide (n > IntKind.i64.wrap ((IntKind.i64.wrap (1152921504606846976 - (dg (c1 t)))).tdiv 10))) = false) (q4 : (o) = true) (x0 : 0 ≤ n1 t ∧ n1 t ≤ ((t.size : Nat) : Int)) {good : Out → St → Prop} (hg : ∀ S1, Keeps S1 (rm_st g (t.extract (n1 t : Int).toNat t.size) n (IntKind.i64.wrap (y + 1)) o v e) → good .normal S1) : StepTo P Z6 1 78 rm_b (rm_st g t n y o v e) good :=
  step_run (rm_w4 g t n y o v e) (ps_cons q0 (ps_cons trivial (ps_cons q1 (ps_cons trivial (ps_cons q2 (ps_cons trivial (ps_cons q3 (ps_cons (neg_f q4) (ps_cons x0 (ps_cons rfl (ps_cons rfl (ps_cons rfl (ps_cons rfl (ps_cons rfl (ps_cons rfl (ps_cons rfl ps_nil)))))))))))))))) rfl hg
theorem rm_w5 (g : Bool) (t : ByteArray) (n : Int) (y : Int) (o : Bool) (v : Int) (e : Int) (k_ : Nat) : stepF P Z6 1 78 rm_b (rm_st g t n y o v e) (.b true :: (.b false :: (.b false :: (.b false :: (.b true :: []))))) 1000 (fun _ => some (rm_st g (t.extract (n1 t : Int).toNat t.size) (IntKind.i64.wrap (IntKind.i64.wrap (10 * n) + (dg (c1 t)))) (IntKind.i64.wrap (y + 1)) o v e)) k_ =
  some (.normal, k_, [(decide (((t.size : Nat) : Int) > 0)) = true, sP (fun _ => True) [.string t], (bd t) = false, rP [.int .i32 (c1 t)], (decide (dg (c1 t) < 0)) = false, rP [.int .i32 (c1 t)], (decide (n > IntKind.i64.wrap ((IntKind.i64.wrap (1152921504606846976 - (dg (c1 t)))).tdiv 10))) = false, (!o) = true, rP [.int .i32 (c1 t)], 0 ≤ n1 t ∧ n1 t ≤ ((t.size : Nat) : Int), (.string (t.extract (n1 t : Int).toNat t.size) : Value) = .string (t.extract (n1 t : Int).toNat t.size), (.int .i64 (IntKind.i64.wrap (IntKind.i64.wrap (10 * n) + (dg (c1 t)))) : Value) = .int .i64 (IntKind.i64.wrap (IntKind.i64.wrap (10 * n) + (dg (c1 t)))), (.int .i64 (IntKind.i64.wrap (y + 1)) : Value) = .int .i64 (IntKind.i64.wrap (y + 1)), (.bool o : Value) = .bool o, (.int .i64 v : Value) = .int .i64 v, (.int .i64 e : Value) = .int .i64 e, (.bool g : Value) = .bool g]) := by kernel_rfl
theorem rm_w5_ok (g : Bool) (t : ByteArray) (n : Int) (y : Int) (o : Bool) (v : Int) (e : Int) (q0 : (decide (((t.size : Nat) : Int) > 0)) = true) (q1 : (bd t) = false) (q2 : (decide (dg (c1 t) < 0)) = false) (q3 : (decide (n > IntKind.i64.wrap ((IntKind.i64.wrap (1152921504606846976 - (dg (c1 t)))).tdiv 10))) = false) (q4 : (o) = false) (x0 : 0 ≤ n1 t ∧ n1 t ≤ ((t.size : Nat) : Int)) {good : Out → St → Prop} (hg : ∀ S1, Keeps S1 (rm_st g (t.extract (n1 t : Int).toNat t.size) (IntKind.i64.wrap (IntKind.i64.wrap (10 * n) + (dg (c1 t)))) (IntKind.i64.wrap (y + 1)) o v e) → good .normal S1) : StepTo P Z6 1 78 rm_b (rm_st g t n y o v e) good :=
  step_run (rm_w5 g t n y o v e) (ps_cons q0 (ps_cons trivial (ps_cons q1 (ps_cons trivial (ps_cons q2 (ps_cons trivial (ps_cons q3 (ps_cons (neg_t q4) (ps_cons trivial (ps_cons x0 (ps_cons rfl (ps_cons rfl (ps_cons rfl (ps_cons rfl (ps_cons rfl (ps_cons rfl (ps_cons rfl ps_nil))))))))))))))))) rfl hg
def wn_g (s : ByteArray) (k : Nat) : St := wn_st s (nst s k).1 (mk s k) (nst s k).2.1 ((nst s k).2.2 : Nat) 0 (ps s k)
theorem wn_min {s : ByteArray} (h : sk s 0 = true) {good : Out → St → Prop} (hg : ∀ S1, Keeps S1 (wn_g s 1) → good .normal S1) : StepTo P Z5 1 64 wn_b (wn_g s 0) good := by
  have hm : mi s = true := by simpa [sk] using h
  have hc : 0 < cn s := by
    unfold mi at hm
    simp only [Bool.and_eq_true, decide_eq_true_eq] at hm
    exact hm.1
  have hr : mn (rn s 0) = true := by
    unfold mi at hm
    simp only [Bool.and_eq_true, decide_eq_true_eq] at hm
    exact hm.2
  have hg : ∀ S1, Keeps S1 (wn_st s (nst s 0).1 true (nst s 0).2.1 ((nst s 0).2.2 : Nat) 0 (ps s 1)) → good .normal S1 := fun S1 hk => hg S1 (by
    unfold wn_g
    rw [nst_sk h, show mk s 1 = true from by unfold mk; rw [hm]; rfl]
    exact hk)
  unfold mn at hr
  cases q2 : ((rn s 0 : Int) == 45) with
  | true => exact wn_w0_ok s _ _ _ _ _ _ (cn_lt hc) rfl q2 hg
  | false =>
    rw [q2] at hr
    exact wn_w6_ok s _ _ _ _ _ _ (cn_lt hc) rfl q2 hr hg
theorem dgv {c : Int} (h : 0 ≤ dg c) : (if dg c < 0 then 0 else dg c) = dg c := if_neg (by omega)
theorem wn_dig {s : ByteArray} (hs : s.size ≤ 1000000) {k : Nat} (hk : k < cn s) (h : sk s k = false) (hd : 0 ≤ dg (rn s k)) {good : Out → St → Prop} (hg : ∀ S1, Keeps S1 (wn_g s (k + 1)) → good .normal S1) : StepTo P Z5 1 64 wn_b (wn_g s k) good := by
  have hy := nst_le s k
  have hc := cn_le s
  have e1 : IntKind.i64.wrap (((nst s k).2.2 : Nat) + 1 : Int) = (((nst s k).2.2 + 1 : Nat) : Int) := by rw [wr (by omega) (by omega)]; rfl
  have qd : decide (0 ≤ dg ((Utf8.decode s (ps s k)).1 : Int)) = true := decide_eq_true hd
  have hmk : k = 0 → mn (rn s k) = false := fun e => by
    subst e
    unfold sk mi at h
    rw [decide_eq_true hk] at h
    simpa using h
  have em : mk s (k + 1) = mk s k := by
    unfold mk
    rcases Nat.eq_zero_or_pos k with e | e
    · subst e
      have : mi s = false := by simpa [sk] using h
      rw [this]; rfl
    · rw [decide_eq_true e, decide_eq_true (Nat.succ_pos k)]
  have dv : (if dg ((Utf8.decode s (ps s k)).1 : Int) < 0 then 0 else dg ((Utf8.decode s (ps s k)).1 : Int)) = dg (rn s k) := dgv hd
  cases q3 : (nst s k).2.1 with
  | true =>
    have hg : ∀ S1, Keeps S1 (wn_st s (nst s k).1 (mk s k) true (IntKind.i64.wrap (((nst s k).2.2 : Nat) + 1 : Int)) 0 (ps s k + (Utf8.decode s (ps s k)).2)) → good .normal S1 := fun S1 hk1 => hg S1 (by
      unfold wn_g
      rw [nst_o h q3, em]
      rw [e1] at hk1
      exact hk1)
    rcases Nat.eq_zero_or_pos k with e | e
    · have hm := hmk e
      unfold mn at hm
      simp only [Bool.or_eq_false_iff] at hm
      exact wn_w7_ok s _ _ _ _ _ _ (cn_lt hk) (by subst e; rfl) hm.1 hm.2 qd q3 hg
    · have := ps_ge s k
      exact wn_w2_ok s _ _ _ _ _ _ (cn_lt hk) (by apply beq_false_of_ne; omega) qd q3 hg
  | false =>
    cases q4 : ov (nst s k).1 (dg (rn s k)) with
    | true =>
      have qv : decide ((nst s k).1 > IntKind.i64.wrap ((IntKind.i64.wrap (1152921504606846976 - (if dg ((Utf8.decode s (ps s k)).1 : Int) < 0 then 0 else dg ((Utf8.decode s (ps s k)).1 : Int)))).tdiv 10)) = true := by rw [dv]; exact q4
      have hg : ∀ S1, Keeps S1 (wn_st s (nst s k).1 (mk s k) (decide ((nst s k).1 > IntKind.i64.wrap ((IntKind.i64.wrap (1152921504606846976 - (if dg ((Utf8.decode s (ps s k)).1 : Int) < 0 then 0 else dg ((Utf8.decode s (ps s k)).1 : Int)))).tdiv 10))) (IntKind.i64.wrap (((nst s k).2.2 : Nat) + 1 : Int)) 0 (ps s k + (Utf8.decode s (ps s k)).2)) → good .normal S1 := fun S1 hk1 => hg S1 (by
        unfold wn_g
        rw [nst_v h q4, em]
        rw [e1, qv] at hk1
        exact hk1)
      rcases Nat.eq_zero_or_pos k with e | e
      · have hm := hmk e
        unfold mn at hm
        simp only [Bool.or_eq_false_iff] at hm
        exact wn_w9_ok s _ _ _ _ _ _ (cn_lt hk) (by subst e; rfl) hm.1 hm.2 qd q3 qv hg
      · have := ps_ge s k
        exact wn_w4_ok s _ _ _ _ _ _ (cn_lt hk) (by apply beq_false_of_ne; omega) qd q3 qv hg
    | false =>
      have qv : decide ((nst s k).1 > IntKind.i64.wrap ((IntKind.i64.wrap (1152921504606846976 - (if dg ((Utf8.decode s (ps s k)).1 : Int) < 0 then 0 else dg ((Utf8.decode s (ps s k)).1 : Int)))).tdiv 10)) = false := by rw [dv]; exact q4
      have hg : ∀ S1, Keeps S1 (wn_st s (IntKind.i64.wrap (IntKind.i64.wrap (10 * (nst s k).1) + (if dg ((Utf8.decode s (ps s k)).1 : Int) < 0 then 0 else dg ((Utf8.decode s (ps s k)).1 : Int)))) (mk s k) (decide ((nst s k).1 > IntKind.i64.wrap ((IntKind.i64.wrap (1152921504606846976 - (if dg ((Utf8.decode s (ps s k)).1 : Int) < 0 then 0 else dg ((Utf8.decode s (ps s k)).1 : Int)))).tdiv 10))) (IntKind.i64.wrap (((nst s k).2.2 : Nat) + 1 : Int)) 0 (ps s k + (Utf8.decode s (ps s k)).2)) → good .normal S1 := fun S1 hk1 => hg S1 (by
        unfold wn_g
        rw [nst_d h q3 q4, em]
        rw [e1, qv, dv] at hk1
        exact hk1)
      rcases Nat.eq_zero_or_pos k with e | e
      · have hm := hmk e
        unfold mn at hm
        simp only [Bool.or_eq_false_iff] at hm
        exact wn_w10_ok s _ _ _ _ _ _ (cn_lt hk) (by subst e; rfl) hm.1 hm.2 qd q3 qv hg
      · have := ps_ge s k
        exact wn_w5_ok s _ _ _ _ _ _ (cn_lt hk) (by apply beq_false_of_ne; omega) qd q3 qv hg
theorem wn_badstep {s : ByteArray} {k : Nat} (hk : k < cn s) (hb : good s k = false) {gd : Out → St → Prop} (hg : ∀ S1, Keeps S1 (wn_st s 0 (mk s k) (nst s k).2.1 ((nst s k).2.2 : Nat) 12 (ps s (k + 1))) → gd .ret S1) : StepTo P Z5 1 64 wn_b (wn_g s k) gd := by
  unfold good at hb
  simp only [Bool.or_eq_false_iff] at hb
  obtain ⟨h, hd⟩ := hb
  rcases Nat.eq_zero_or_pos k with e | e
  · have hm : mn (rn s k) = false := by
      subst e
      unfold sk mi at h
      rw [decide_eq_true hk] at h
      simpa using h
    unfold mn at hm
    simp only [Bool.or_eq_false_iff] at hm
    exact wn_w8_ok s _ _ _ _ _ _ (cn_lt hk) (by subst e; rfl) hm.1 hm.2 hd hg
  · have := ps_ge s k
    exact wn_w3_ok s _ _ _ _ _ _ (cn_lt hk) (by apply beq_false_of_ne; omega) hd hg
theorem wn_round {s : ByteArray} (hs : s.size ≤ 1000000) {k : Nat} (hk : k < cn s) (hb : good s k = true) {gd : Out → St → Prop} (hg : ∀ S1, Keeps S1 (wn_g s (k + 1)) → gd .normal S1) : StepTo P Z5 1 64 wn_b (wn_g s k) gd := by
  cases h : sk s k with
  | true =>
    have e : k = 0 := by
      unfold sk at h
      simp only [Bool.and_eq_true, beq_iff_eq] at h
      exact h.1
    subst e
    exact wn_min h hg
  | false =>
    unfold good at hb
    rw [h, Bool.false_or] at hb
    exact wn_dig hs hk h (of_decide_eq_true hb) hg
noncomputable def wn_loopG (s : ByteArray) (hs : s.size ≤ 1000000) (hg : ∀ j, j < cn s → good s j = true) : CodeC P :=
  loopC mo Z5 (by rfl) 1 64 wn_b [6] (wn_g s) (fun k => k ≤ cn s) (fun k => cn s - k) (.exit 0) (wn_g s (cn s)) (by simp) (fun _ => rfl) rfl (fun _ => by kernel_rfl) (by kernel_rfl) [] (fun _ => rfl) rfl
    (fun k hk => by
      by_cases h : k < cn s
      · exact wn_round hs h (hg k h) fun S1 hk1 => .inl ⟨rfl, k + 1, h, by omega, hk1⟩
      · have e : k = cn s := by omega
        subst e
        exact wn_w1_ok s _ _ _ _ _ _ (by have := cn_end s; omega) fun S1 hk1 => .inr ⟨rfl, hk1⟩) 0 (Nat.zero_le _)
noncomputable def wn_loopB (s : ByteArray) (hs : s.size ≤ 1000000) (b : Nat) (hb : b < cn s) (hg : ∀ j, j < b → good s j = true) (hbad : good s b = false) : CodeC P :=
  loopC mo Z5 (by rfl) 1 64 wn_b [6] (wn_g s) (fun k => k ≤ b) (fun k => b - k) .ret (wn_st s 0 (mk s b) (nst s b).2.1 ((nst s b).2.2 : Nat) 12 (ps s (b + 1))) (by simp) (fun _ => rfl) rfl (fun _ => by kernel_rfl) (by kernel_rfl) [] (fun _ => rfl) rfl
    (fun k hk => by
      by_cases h : k < b
      · exact wn_round hs (by omega) (hg k h) fun S1 hk1 => .inl ⟨rfl, k + 1, h, by omega, hk1⟩
      · have e : k = b := by omega
        subst e
        exact wn_badstep hb hbad fun S1 hk1 => .inr ⟨rfl, hk1⟩) 0 (Nat.zero_le _)
noncomputable def wn_EG (s : ByteArray) (hs : s.size ≤ 1000000) (hg : ∀ j, j < cn s → good s j = true) : Env P := ⟨⟨[], [], []⟩, [wn_loopG s hs hg], 10, []⟩
noncomputable def wn_EB (s : ByteArray) (hs : s.size ≤ 1000000) (b : Nat) (hb : b < cn s) (hg : ∀ j, j < b → good s j = true) (hbad : good s b = false) : Env P := ⟨⟨[], [], []⟩, [wn_loopB s hs b hb hg hbad], 10, []⟩
def nvG (s : ByteArray) : Int × Int :=
  if (nst s (cn s)).2.2 = 0 ∨ 20 < (nst s (cn s)).2.2 then (0, 12)
  else if (nst s (cn s)).2.1 then (0, 20)
  else if mi s then (IntKind.i64.wrap (0 - (nst s (cn s)).1), 0) else ((nst s (cn s)).1, 0)
theorem mk_end (s : ByteArray) : mk s (cn s) = mi s := by
  unfold mk mi
  cases decide (0 < cn s) <;> rfl
theorem wq0_leaf (s : ByteArray) (hs : s.size ≤ 1000000) (hg : ∀ j, j < cn s → good s j = true) (q0 : ((((nst s (cn s)).2.2 : Nat) : Int) == 0) = true) : Gives P 11 #[.string s] (.tuple #[.int .i64 (nvG s).1, .int .i64 (nvG s).2]) := by
  refine gives_of_run (E := (wn_EG s hs hg)) (lv := 1) (ds := (.n 0 :: (.b true :: []))) (v := .tuple #[.int .i64 0, .int .i64 12]) (ps := [Code.loop wn_b = innerOf P 11 0, (.int .i64 0 : Value) = .int .i64 ((nst s 0).1), (.bool false : Value) = .bool (mk s 0), (.bool false : Value) = .bool ((nst s 0).2.1), (.int .i64 0 : Value) = .int .i64 (((nst s 0).2.2 : Nat) : Int), (.int .i64 0 : Value) = .int .i64 0, (.ptr 6 0 : SV) = .ptr 6 0, s = s, 0 = ps s 0, ((((nst s (cn s)).2.2 : Nat) : Int) == 0) = true]) mo (by kernel_rfl) (ps_cons (by kernel_rfl) (ps_cons rfl (ps_cons (by rfl) (ps_cons rfl (ps_cons rfl (ps_cons rfl (ps_cons rfl (ps_cons rfl (ps_cons rfl (ps_cons q0 ps_nil)))))))))) ?_
  have p0 := eq_of_beq q0
  have e : nvG s = (0, 12) := by unfold nvG; rw [if_pos (by omega)]
  rw [e]
theorem wq1_leaf (s : ByteArray) (hs : s.size ≤ 1000000) (hg : ∀ j, j < cn s → good s j = true) (q0 : ((((nst s (cn s)).2.2 : Nat) : Int) == 0) = false) (q1 : (decide ((((nst s (cn s)).2.2 : Nat) : Int) > 20)) = true) : Gives P 11 #[.string s] (.tuple #[.int .i64 (nvG s).1, .int .i64 (nvG s).2]) := by
  refine gives_of_run (E := (wn_EG s hs hg)) (lv := 1) (ds := (.n 0 :: (.b false :: (.b true :: [])))) (v := .tuple #[.int .i64 0, .int .i64 12]) (ps := [Code.loop wn_b = innerOf P 11 0, (.int .i64 0 : Value) = .int .i64 ((nst s 0).1), (.bool false : Value) = .bool (mk s 0), (.bool false : Value) = .bool ((nst s 0).2.1), (.int .i64 0 : Value) = .int .i64 (((nst s 0).2.2 : Nat) : Int), (.int .i64 0 : Value) = .int .i64 0, (.ptr 6 0 : SV) = .ptr 6 0, s = s, 0 = ps s 0, ((((nst s (cn s)).2.2 : Nat) : Int) == 0) = false, (decide ((((nst s (cn s)).2.2 : Nat) : Int) > 20)) = true]) mo (by kernel_rfl) (ps_cons (by kernel_rfl) (ps_cons rfl (ps_cons (by rfl) (ps_cons rfl (ps_cons rfl (ps_cons rfl (ps_cons rfl (ps_cons rfl (ps_cons rfl (ps_cons q0 (ps_cons q1 ps_nil))))))))))) ?_
  have p0 := ne_of_beq_false q0
  have p1 := of_decide_eq_true q1
  have e : nvG s = (0, 12) := by unfold nvG; rw [if_pos (by omega)]
  rw [e]
theorem wq2_leaf (s : ByteArray) (hs : s.size ≤ 1000000) (hg : ∀ j, j < cn s → good s j = true) (q0 : ((((nst s (cn s)).2.2 : Nat) : Int) == 0) = false) (q1 : (decide ((((nst s (cn s)).2.2 : Nat) : Int) > 20)) = false) (q2 : ((nst s (cn s)).2.1) = true) : Gives P 11 #[.string s] (.tuple #[.int .i64 (nvG s).1, .int .i64 (nvG s).2]) := by
  refine gives_of_run (E := (wn_EG s hs hg)) (lv := 1) (ds := (.n 0 :: (.b false :: (.b false :: (.b true :: []))))) (v := .tuple #[.int .i64 0, .int .i64 20]) (ps := [Code.loop wn_b = innerOf P 11 0, (.int .i64 0 : Value) = .int .i64 ((nst s 0).1), (.bool false : Value) = .bool (mk s 0), (.bool false : Value) = .bool ((nst s 0).2.1), (.int .i64 0 : Value) = .int .i64 (((nst s 0).2.2 : Nat) : Int), (.int .i64 0 : Value) = .int .i64 0, (.ptr 6 0 : SV) = .ptr 6 0, s = s, 0 = ps s 0, ((((nst s (cn s)).2.2 : Nat) : Int) == 0) = false, (decide ((((nst s (cn s)).2.2 : Nat) : Int) > 20)) = false, ((nst s (cn s)).2.1) = true]) mo (by kernel_rfl) (ps_cons (by kernel_rfl) (ps_cons rfl (ps_cons (by rfl) (ps_cons rfl (ps_cons rfl (ps_cons rfl (ps_cons rfl (ps_cons rfl (ps_cons rfl (ps_cons q0 (ps_cons q1 (ps_cons q2 ps_nil)))))))))))) ?_
  have p0 := ne_of_beq_false q0
  have p1 := of_decide_eq_false q1
  have e : nvG s = (0, 20) := by unfold nvG; rw [if_neg (by omega), if_pos q2]
  rw [e]
theorem wq3_leaf (s : ByteArray) (hs : s.size ≤ 1000000) (hg : ∀ j, j < cn s → good s j = true) (q0 : ((((nst s (cn s)).2.2 : Nat) : Int) == 0) = false) (q1 : (decide ((((nst s (cn s)).2.2 : Nat) : Int) > 20)) = false) (q2 : ((nst s (cn s)).2.1) = false) (q3 : (mk s (cn s)) = true) : Gives P 11 #[.string s] (.tuple #[.int .i64 (nvG s).1, .int .i64 (nvG s).2]) := by
  refine gives_of_run (E := (wn_EG s hs hg)) (lv := 1) (ds := (.n 0 :: (.b false :: (.b false :: (.b false :: (.b true :: [])))))) (v := .tuple #[.int .i64 (IntKind.i64.wrap (0 - ((nst s (cn s)).1))), .int .i64 0]) (ps := [Code.loop wn_b = innerOf P 11 0, (.int .i64 0 : Value) = .int .i64 ((nst s 0).1), (.bool false : Value) = .bool (mk s 0), (.bool false : Value) = .bool ((nst s 0).2.1), (.int .i64 0 : Value) = .int .i64 (((nst s 0).2.2 : Nat) : Int), (.int .i64 0 : Value) = .int .i64 0, (.ptr 6 0 : SV) = .ptr 6 0, s = s, 0 = ps s 0, ((((nst s (cn s)).2.2 : Nat) : Int) == 0) = false, (decide ((((nst s (cn s)).2.2 : Nat) : Int) > 20)) = false, ((nst s (cn s)).2.1) = false, (mk s (cn s)) = true]) mo (by kernel_rfl) (ps_cons (by kernel_rfl) (ps_cons rfl (ps_cons (by rfl) (ps_cons rfl (ps_cons rfl (ps_cons rfl (ps_cons rfl (ps_cons rfl (ps_cons rfl (ps_cons q0 (ps_cons q1 (ps_cons q2 (ps_cons q3 ps_nil))))))))))))) ?_
  have p0 := ne_of_beq_false q0
  have p1 := of_decide_eq_false q1
  have e : nvG s = (IntKind.i64.wrap (0 - (nst s (cn s)).1), 0) := by unfold nvG; rw [if_neg (by omega), if_neg (by rw [q2]; simp), if_pos (by rw [← mk_end]; exact q3)]
  rw [e]
theorem wq4_leaf (s : ByteArray) (hs : s.size ≤ 1000000) (hg : ∀ j, j < cn s → good s j = true) (q0 : ((((nst s (cn s)).2.2 : Nat) : Int) == 0) = false) (q1 : (decide ((((nst s (cn s)).2.2 : Nat) : Int) > 20)) = false) (q2 : ((nst s (cn s)).2.1) = false) (q3 : (mk s (cn s)) = false) : Gives P 11 #[.string s] (.tuple #[.int .i64 (nvG s).1, .int .i64 (nvG s).2]) := by
  refine gives_of_run (E := (wn_EG s hs hg)) (lv := 1) (ds := (.n 0 :: (.b false :: (.b false :: (.b false :: (.b false :: [])))))) (v := .tuple #[.int .i64 ((nst s (cn s)).1), .int .i64 0]) (ps := [Code.loop wn_b = innerOf P 11 0, (.int .i64 0 : Value) = .int .i64 ((nst s 0).1), (.bool false : Value) = .bool (mk s 0), (.bool false : Value) = .bool ((nst s 0).2.1), (.int .i64 0 : Value) = .int .i64 (((nst s 0).2.2 : Nat) : Int), (.int .i64 0 : Value) = .int .i64 0, (.ptr 6 0 : SV) = .ptr 6 0, s = s, 0 = ps s 0, ((((nst s (cn s)).2.2 : Nat) : Int) == 0) = false, (decide ((((nst s (cn s)).2.2 : Nat) : Int) > 20)) = false, ((nst s (cn s)).2.1) = false, (mk s (cn s)) = false]) mo (by kernel_rfl) (ps_cons (by kernel_rfl) (ps_cons rfl (ps_cons (by rfl) (ps_cons rfl (ps_cons rfl (ps_cons rfl (ps_cons rfl (ps_cons rfl (ps_cons rfl (ps_cons q0 (ps_cons q1 (ps_cons q2 (ps_cons q3 ps_nil))))))))))))) ?_
  have p0 := ne_of_beq_false q0
  have p1 := of_decide_eq_false q1
  have e : nvG s = ((nst s (cn s)).1, 0) := by unfold nvG; rw [if_neg (by omega), if_neg (by rw [q2]; simp), if_neg (by rw [← mk_end, q3]; simp)]
  rw [e]
theorem wn_good (s : ByteArray) (hs : s.size ≤ 1000000) (hg : ∀ j, j < cn s → good s j = true) : Gives P 11 #[.string s] (.tuple #[.int .i64 (nvG s).1, .int .i64 (nvG s).2]) := by
  cases q0 : ((((nst s (cn s)).2.2 : Nat) : Int) == 0) with
  | true =>
    exact wq0_leaf s hs hg q0
  | false =>
    cases q1 : (decide ((((nst s (cn s)).2.2 : Nat) : Int) > 20)) with
    | true =>
      exact wq1_leaf s hs hg q0 q1
    | false =>
      cases q2 : ((nst s (cn s)).2.1) with
      | true =>
        exact wq2_leaf s hs hg q0 q1 q2
      | false =>
        cases q3 : (mk s (cn s)) with
        | true =>
          exact wq3_leaf s hs hg q0 q1 q2 q3
        | false =>
          exact wq4_leaf s hs hg q0 q1 q2 q3
theorem wn_bad (s : ByteArray) (hs : s.size ≤ 1000000) (b : Nat) (hb : b < cn s) (hg : ∀ j, j < b → good s j = true) (hbad : good s b = false) : Gives P 11 #[.string s] (.tuple #[.int .i64 0, .int .i64 12]) :=
  gives_of_run (E := (wn_EB s hs b hb hg hbad)) (lv := 2) (ds := (.n 0 :: [])) (v := .tuple #[.int .i64 0, .int .i64 12]) (ps := [Code.loop wn_b = innerOf P 11 0, (.int .i64 0 : Value) = .int .i64 ((nst s 0).1), (.bool false : Value) = .bool (mk s 0), (.bool false : Value) = .bool ((nst s 0).2.1), (.int .i64 0 : Value) = .int .i64 (((nst s 0).2.2 : Nat) : Int), (.int .i64 0 : Value) = .int .i64 0, (.ptr 6 0 : SV) = .ptr 6 0, s = s, 0 = ps s 0]) mo (by kernel_rfl) (ps_cons (by kernel_rfl) (ps_cons rfl (ps_cons (by rfl) (ps_cons rfl (ps_cons rfl (ps_cons rfl (ps_cons rfl (ps_cons rfl (ps_cons rfl ps_nil))))))))) rfl
def rm_g (s : ByteArray) (k : Nat) : St := rm_st (mi s) (tl s k) (nst s k).1 ((nst s k).2.2 : Nat) (nst s k).2.1 0 0
theorem tl_bd {s : ByteArray} {k : Nat} (_ : k < cn s) (hd : 0 ≤ dg (rn s k)) (hc : c1 (tl s k) = (rn s k : Int)) : bd (tl s k) = false := by
  unfold bd
  cases q : (c1 (tl s k) == 65533) with
  | false => rfl
  | true =>
    have := eq_of_beq q
    rw [hc] at this
    rw [this] at hd
    exact absurd hd (by decide)
theorem rm_round {s : ByteArray} (hs : s.size ≤ 1000000) {k : Nat} (hk : k < cn s) (h : sk s k = false) (hd : 0 ≤ dg (rn s k)) {gd : Out → St → Prop} (hg : ∀ S1, Keeps S1 (rm_g s (k + 1)) → gd .normal S1) : StepTo P Z6 1 78 rm_b (rm_g s k) gd := by
  have hy := nst_le s k
  have hc := cn_le s
  have e1 : IntKind.i64.wrap (((nst s k).2.2 : Nat) + 1 : Int) = (((nst s k).2.2 + 1 : Nat) : Int) := by rw [wr (by omega) (by omega)]; rfl
  have hp := tl_pos hk
  have q0 : decide ((((tl s k).size : Nat) : Int) > 0) = true := decide_eq_true (by omega)
  have ec := tl_c hk
  have q1 := tl_bd hk hd ec
  have q2 : decide (dg (c1 (tl s k)) < 0) = false := by rw [ec]; exact decide_eq_false (by omega)
  cases q3 : ov (nst s k).1 (dg (rn s k)) with
  | true =>
    have qv : decide ((nst s k).1 > IntKind.i64.wrap ((IntKind.i64.wrap (1152921504606846976 - (dg (c1 (tl s k))))).tdiv 10)) = true := by rw [ec]; exact q3
    refine rm_w3_ok _ _ _ _ _ _ _ q0 q1 q2 qv (tl_le hk) fun S1 hk1 => hg S1 ?_
    unfold rm_g
    rw [nst_v h q3]
    rw [e1, tl_next hk] at hk1
    exact hk1
  | false =>
    have qv : decide ((nst s k).1 > IntKind.i64.wrap ((IntKind.i64.wrap (1152921504606846976 - (dg (c1 (tl s k))))).tdiv 10)) = false := by rw [ec]; exact q3
    cases q4 : (nst s k).2.1 with
    | true =>
      have hg : ∀ S1, Keeps S1 (rm_st (mi s) (tl s (k + 1)) (nst s k).1 (((nst s k).2.2 + 1 : Nat) : Int) true 0 0) → gd .normal S1 := fun S1 hk1 => hg S1 (by
        unfold rm_g
        rw [nst_o h q4]
        exact hk1)
      unfold rm_g
      rw [q4]
      refine rm_w4_ok _ _ _ _ _ _ _ q0 q1 q2 qv rfl (tl_le hk) fun S1 hk1 => hg S1 ?_
      rw [e1, tl_next hk] at hk1
      exact hk1
    | false =>
      have hg : ∀ S1, Keeps S1 (rm_st (mi s) (tl s (k + 1)) (ad (nst s k).1 (dg (rn s k))) (((nst s k).2.2 + 1 : Nat) : Int) false 0 0) → gd .normal S1 := fun S1 hk1 => hg S1 (by
        unfold rm_g
        rw [nst_d h q4 q3]
        exact hk1)
      unfold rm_g
      rw [q4]
      refine rm_w5_ok _ _ _ _ _ _ _ q0 q1 q2 qv rfl (tl_le hk) fun S1 hk1 => hg S1 ?_
      rw [e1, tl_next hk, ec] at hk1
      exact hk1
theorem rm_badstep {s : ByteArray} {k : Nat} (hk : k < cn s) (hd : ¬ 0 ≤ dg (rn s k)) {gd : Out → St → Prop} (hg : ∀ S1, Keeps S1 (rm_st (mi s) (tl s k) (nst s k).1 ((nst s k).2.2 : Nat) (nst s k).2.1 0 12) → gd .ret S1) : StepTo P Z6 1 78 rm_b (rm_g s k) gd := by
  have hp := tl_pos hk
  have q0 : decide ((((tl s k).size : Nat) : Int) > 0) = true := decide_eq_true (by omega)
  cases q1 : bd (tl s k) with
  | true => exact rm_w0_ok _ _ _ _ _ _ _ q0 q1 hg
  | false => exact rm_w2_ok _ _ _ _ _ _ _ q0 q1 (decide_eq_true (by rw [tl_c hk]; omega)) hg
def k0 (s : ByteArray) : Nat := if mi s then 1 else 0
theorem sk_k0 {s : ByteArray} {k : Nat} (h : k0 s ≤ k) : sk s k = false := by
  unfold sk
  unfold k0 at h
  cases hm : mi s with
  | false => rw [Bool.and_false]
  | true =>
    rw [hm] at h
    simp only [if_true] at h
    rw [Bool.and_true]
    exact beq_false_of_ne (by omega)
theorem good_k0 {s : ByteArray} {k : Nat} (h : k0 s ≤ k) (hg : good s k = true) : 0 ≤ dg (rn s k) := by
  unfold good at hg
  rw [sk_k0 h, Bool.false_or] at hg
  exact of_decide_eq_true hg
theorem k0_le (s : ByteArray) : k0 s ≤ cn s := by
  unfold k0
  cases hm : mi s with
  | false => exact Nat.zero_le _
  | true =>
    unfold mi at hm
    simp only [Bool.and_eq_true, decide_eq_true_eq] at hm
    exact hm.1
theorem nst_k0 (s : ByteArray) : nst s (k0 s) = (0, false, 0) := by
  unfold k0
  cases hm : mi s with
  | false => rfl
  | true =>
    show nst s 1 = _
    rw [nst_sk (show sk s 0 = true by unfold sk; rw [hm]; rfl)]
    rfl
theorem bad_k0 {s : ByteArray} {b : Nat} (hbad : good s b = false) : k0 s ≤ b := by
  unfold k0
  cases hm : mi s with
  | false => exact Nat.zero_le _
  | true =>
    show 1 ≤ b
    rcases Nat.eq_zero_or_pos b with e | e
    · subst e
      unfold good sk at hbad
      rw [hm] at hbad
      cases hbad
    · exact e
noncomputable def rm_loopG (s : ByteArray) (hs : s.size ≤ 1000000) (hg : ∀ j, j < cn s → good s j = true) : CodeC P :=
  loopC mo Z6 (by rfl) 1 78 rm_b [] (rm_g s) (fun k => k0 s ≤ k ∧ k ≤ cn s) (fun k => cn s - k) (.exit 0) (rm_g s (cn s)) (by simp) (fun _ => rfl) rfl (fun _ => by kernel_rfl) (by kernel_rfl) [] (fun _ => rfl) rfl
    (fun k hk => by
      by_cases h : k < cn s
      · exact rm_round hs h (sk_k0 hk.1) (good_k0 hk.1 (hg k h)) fun S1 hk1 => .inl ⟨rfl, k + 1, ⟨by omega, h⟩, by omega, hk1⟩
      · have e : k = cn s := by omega
        subst e
        exact rm_w1_ok _ _ _ _ _ _ _ (decide_eq_false (by have := tl_end s; omega)) fun S1 hk1 => .inr ⟨rfl, hk1⟩) (k0 s) ⟨Nat.le_refl _, k0_le s⟩
noncomputable def rm_loopB (s : ByteArray) (hs : s.size ≤ 1000000) (b : Nat) (hb : b < cn s) (hg : ∀ j, j < b → good s j = true) (hbad : good s b = false) : CodeC P :=
  loopC mo Z6 (by rfl) 1 78 rm_b [] (rm_g s) (fun k => k0 s ≤ k ∧ k ≤ b) (fun k => b - k) .ret (rm_st (mi s) (tl s b) (nst s b).1 ((nst s b).2.2 : Nat) (nst s b).2.1 0 12) (by simp) (fun _ => rfl) rfl (fun _ => by kernel_rfl) (by kernel_rfl) [] (fun _ => rfl) rfl
    (fun k hk => by
      by_cases h : k < b
      · exact rm_round hs (by omega) (sk_k0 hk.1) (good_k0 hk.1 (hg k h)) fun S1 hk1 => .inl ⟨rfl, k + 1, ⟨by omega, h⟩, by omega, hk1⟩
      · have e : k = b := by omega
        subst e
        have hd : ¬ 0 ≤ dg (rn s k) := by
          unfold good at hbad
          simp only [Bool.or_eq_false_iff] at hbad
          exact of_decide_eq_false hbad.2
        exact rm_badstep hb hd fun S1 hk1 => .inr ⟨rfl, hk1⟩) (k0 s) ⟨Nat.le_refl _, bad_k0 hbad⟩
noncomputable def rm_EG (s : ByteArray) (hs : s.size ≤ 1000000) (hg : ∀ j, j < cn s → good s j = true) : Env P := ⟨⟨[nx_c], [], []⟩, [rm_loopG s hs hg], 10, []⟩
noncomputable def rm_EB (s : ByteArray) (hs : s.size ≤ 1000000) (b : Nat) (hb : b < cn s) (hg : ∀ j, j < b → good s j = true) (hbad : good s b = false) : Env P := ⟨⟨[nx_c], [], []⟩, [rm_loopB s hs b hb hg hbad], 10, []⟩
theorem mi_c (s : ByteArray) : mi s = mn (c1 s) := by
  unfold mi
  cases h : decide (0 < cn s) with
  | true =>
    have := tl_c (of_decide_eq_true h)
    rw [tl_zero] at this
    rw [this, Bool.true_and]
  | false =>
    have h0 := of_decide_eq_false h
    have hz : s.size = 0 := by
      rcases Nat.eq_zero_or_pos s.size with e | e
      · exact e
      · exact absurd ((cn_iff s 0).1 e) h0
    have : c1 s = 65533 := by unfold c1 Lib.decodeGo; rw [if_pos hz]; rfl
    rw [this]
    rfl
theorem m_bd {s : ByteArray} (h : bd s = true) : mi s = false := by
  unfold bd at h
  simp only [Bool.and_eq_true] at h
  rw [mi_c, eq_of_beq h.1]
  rfl
theorem m_45 {s : ByteArray} (h : (c1 s == 45) = true) : mi s = true := by rw [mi_c]; unfold mn; rw [h]; rfl
theorem m_87 {s : ByteArray} (h : (c1 s == 8722) = true) : mi s = true := by rw [mi_c]; unfold mn; rw [h, Bool.or_true]
theorem m_no {s : ByteArray} (h : (c1 s == 45) = false) (h' : (c1 s == 8722) = false) : mi s = false := by rw [mi_c]; unfold mn; rw [h, h']; rfl
theorem m_pos {s : ByteArray} (h : mi s = true) : 0 < cn s := by
  unfold mi at h
  simp only [Bool.and_eq_true, decide_eq_true_eq] at h
  exact h.1
theorem m_st0 {s : ByteArray} (h : mi s = false) : (.string s : Value) = .string (tl s (k0 s)) := by
  rw [show k0 s = 0 by unfold k0; rw [h]; rfl, tl_zero]
theorem m_st1 {s : ByteArray} (h : mi s = true) : (.string (s.extract (n1 s : Int).toNat s.size) : Value) = .string (tl s (k0 s)) := by
  have := tl_next (m_pos h)
  rw [tl_zero] at this
  rw [show k0 s = 1 by unfold k0; rw [h]; rfl, this]
theorem m_sl {s : ByteArray} (h : mi s = true) : 0 ≤ n1 s ∧ n1 s ≤ ((s.size : Nat) : Int) := by
  have := tl_le (m_pos h)
  rw [tl_zero] at this
  exact this
theorem m_g {s : ByteArray} {b : Bool} (h : mi s = b) : (.bool b : Value) = .bool (mi s) := by rw [h]
theorem m_n (s : ByteArray) : (.int .i64 0 : Value) = .int .i64 (nst s (k0 s)).1 := by rw [nst_k0]
theorem m_y (s : ByteArray) : (.int .i64 0 : Value) = .int .i64 (((nst s (k0 s)).2.2 : Nat) : Int) := by rw [nst_k0]; rfl
theorem m_o (s : ByteArray) : (.bool false : Value) = .bool (nst s (k0 s)).2.1 := by rw [nst_k0]
theorem rq0_leaf (s : ByteArray) (hs : s.size ≤ 1000000) (hg : ∀ j, j < cn s → good s j = true) (q0 : (bd s) = true) (q1 : (decide ((((nst s (cn s)).2.2 : Nat) : Int) < 1)) = true) : Gives P 12 #[.string s] (.tuple #[.int .i64 (nvG s).1, .int .i64 (nvG s).2]) := by
  refine gives_of_run (E := (rm_EG s hs hg)) (lv := 1) (ds := (.b false :: (.lit :: (.lit :: (.n 0 :: (.b true :: [])))))) (v := .tuple #[.int .i64 0, .int .i64 12]) (ps := [sP (fun _ => True) [.string s], (!(bd s)) = false, Code.loop rm_b = innerOf P 12 0, (.string s : Value) = .string (tl s (k0 s)), (.int .i64 0 : Value) = .int .i64 ((nst s (k0 s)).1), (.int .i64 0 : Value) = .int .i64 (((nst s (k0 s)).2.2 : Nat) : Int), (.bool false : Value) = .bool ((nst s (k0 s)).2.1), (.int .i64 0 : Value) = .int .i64 0, (.int .i64 0 : Value) = .int .i64 0, (.bool false : Value) = .bool (mi s), (decide ((((nst s (cn s)).2.2 : Nat) : Int) < 1)) = true]) mo (by kernel_rfl) (ps_cons trivial (ps_cons (neg_f q0) (ps_cons (by kernel_rfl) (ps_cons (m_st0 (by first | exact m_bd q0 | exact m_no q1 q2 | exact m_45 q1 | exact m_87 q2)) (ps_cons (m_n s) (ps_cons (m_y s) (ps_cons (m_o s) (ps_cons rfl (ps_cons rfl (ps_cons (m_g (by first | exact m_bd q0 | exact m_45 q1 | exact (m_87 q2).trans q2.symm | exact (m_no q1 q2).trans q2.symm)) (ps_cons q1 ps_nil))))))))))) ?_
  have p1 := of_decide_eq_true q1
  have e : nvG s = (0, 12) := by unfold nvG; rw [if_pos (by omega)]
  rw [e]
theorem rq1_leaf (s : ByteArray) (hs : s.size ≤ 1000000) (hg : ∀ j, j < cn s → good s j = true) (q0 : (bd s) = false) (q1 : (c1 s == 45) = true) (q2 : (decide ((((nst s (cn s)).2.2 : Nat) : Int) < 1)) = true) : Gives P 12 #[.string s] (.tuple #[.int .i64 (nvG s).1, .int .i64 (nvG s).2]) := by
  refine gives_of_run (E := (rm_EG s hs hg)) (lv := 1) (ds := (.b true :: (.b true :: (.lit :: (.n 0 :: (.b true :: [])))))) (v := .tuple #[.int .i64 0, .int .i64 12]) (ps := [sP (fun _ => True) [.string s], (!(bd s)) = true, (c1 s == 45) = true, 0 ≤ n1 s ∧ n1 s ≤ ((s.size : Nat) : Int), Code.loop rm_b = innerOf P 12 0, (.string (s.extract (n1 s : Int).toNat s.size) : Value) = .string (tl s (k0 s)), (.int .i64 0 : Value) = .int .i64 ((nst s (k0 s)).1), (.int .i64 0 : Value) = .int .i64 (((nst s (k0 s)).2.2 : Nat) : Int), (.bool false : Value) = .bool ((nst s (k0 s)).2.1), (.int .i64 0 : Value) = .int .i64 0, (.int .i64 0 : Value) = .int .i64 0, (.bool true : Value) = .bool (mi s), (decide ((((nst s (cn s)).2.2 : Nat) : Int) < 1)) = true]) mo (by kernel_rfl) (ps_cons trivial (ps_cons (neg_t q0) (ps_cons q1 (ps_cons (m_sl (by first | exact m_bd q0 | exact m_no q1 q2 | exact m_45 q1 | exact m_87 q2)) (ps_cons (by kernel_rfl) (ps_cons (m_st1 (by first | exact m_bd q0 | exact m_no q1 q2 | exact m_45 q1 | exact m_87 q2)) (ps_cons (m_n s) (ps_cons (m_y s) (ps_cons (m_o s) (ps_cons rfl (ps_cons rfl (ps_cons (m_g (by first | exact m_bd q0 | exact m_45 q1 | exact (m_87 q2).trans q2.symm | exact (m_no q1 q2).trans q2.symm)) (ps_cons q2 ps_nil))))))))))))) ?_
  have p2 := of_decide_eq_true q2
  have e : nvG s = (0, 12) := by unfold nvG; rw [if_pos (by omega)]
  rw [e]
theorem rq2_leaf (s : ByteArray) (hs : s.size ≤ 1000000) (hg : ∀ j, j < cn s → good s j = true) (q0 : (bd s) = false) (q1 : (c1 s == 45) = false) (q2 : (c1 s == 8722) = true) (q3 : (decide ((((nst s (cn s)).2.2 : Nat) : Int) < 1)) = true) : Gives P 12 #[.string s] (.tuple #[.int .i64 (nvG s).1, .int .i64 (nvG s).2]) := by
  refine gives_of_run (E := (rm_EG s hs hg)) (lv := 1) (ds := (.b true :: (.b false :: (.b true :: (.n 0 :: (.b true :: [])))))) (v := .tuple #[.int .i64 0, .int .i64 12]) (ps := [sP (fun _ => True) [.string s], (!(bd s)) = true, (c1 s == 45) = false, (c1 s == 8722) = true, 0 ≤ n1 s ∧ n1 s ≤ ((s.size : Nat) : Int), Code.loop rm_b = innerOf P 12 0, (.string (s.extract (n1 s : Int).toNat s.size) : Value) = .string (tl s (k0 s)), (.int .i64 0 : Value) = .int .i64 ((nst s (k0 s)).1), (.int .i64 0 : Value) = .int .i64 (((nst s (k0 s)).2.2 : Nat) : Int), (.bool false : Value) = .bool ((nst s (k0 s)).2.1), (.int .i64 0 : Value) = .int .i64 0, (.int .i64 0 : Value) = .int .i64 0, (.bool (c1 s == 8722) : Value) = .bool (mi s), (decide ((((nst s (cn s)).2.2 : Nat) : Int) < 1)) = true]) mo (by kernel_rfl) (ps_cons trivial (ps_cons (neg_t q0) (ps_cons q1 (ps_cons q2 (ps_cons (m_sl (by first | exact m_bd q0 | exact m_no q1 q2 | exact m_45 q1 | exact m_87 q2)) (ps_cons (by kernel_rfl) (ps_cons (m_st1 (by first | exact m_bd q0 | exact m_no q1 q2 | exact m_45 q1 | exact m_87 q2)) (ps_cons (m_n s) (ps_cons (m_y s) (ps_cons (m_o s) (ps_cons rfl (ps_cons rfl (ps_cons (m_g (by first | exact m_bd q0 | exact m_45 q1 | exact (m_87 q2).trans q2.symm | exact (m_no q1 q2).trans q2.symm)) (ps_cons q3 ps_nil)))))))))))))) ?_
  have p3 := of_decide_eq_true q3
  have e : nvG s = (0, 12) := by unfold nvG; rw [if_pos (by omega)]
  rw [e]
theorem rq3_leaf (s : ByteArray) (hs : s.size ≤ 1000000) (hg : ∀ j, j < cn s → good s j = true) (q0 : (bd s) = false) (q1 : (c1 s == 45) = false) (q2 : (c1 s == 8722) = false) (q3 : (decide ((((nst s (cn s)).2.2 : Nat) : Int) < 1)) = true) : Gives P 12 #[.string s] (.tuple #[.int .i64 (nvG s).1, .int .i64 (nvG s).2]) := by
  refine gives_of_run (E := (rm_EG s hs hg)) (lv := 1) (ds := (.b true :: (.b false :: (.b false :: (.n 0 :: (.b true :: [])))))) (v := .tuple #[.int .i64 0, .int .i64 12]) (ps := [sP (fun _ => True) [.string s], (!(bd s)) = true, (c1 s == 45) = false, (c1 s == 8722) = false, Code.loop rm_b = innerOf P 12 0, (.string s : Value) = .string (tl s (k0 s)), (.int .i64 0 : Value) = .int .i64 ((nst s (k0 s)).1), (.int .i64 0 : Value) = .int .i64 (((nst s (k0 s)).2.2 : Nat) : Int), (.bool false : Value) = .bool ((nst s (k0 s)).2.1), (.int .i64 0 : Value) = .int .i64 0, (.int .i64 0 : Value) = .int .i64 0, (.bool (c1 s == 8722) : Value) = .bool (mi s), (decide ((((nst s (cn s)).2.2 : Nat) : Int) < 1)) = true]) mo (by kernel_rfl) (ps_cons trivial (ps_cons (neg_t q0) (ps_cons q1 (ps_cons q2 (ps_cons (by kernel_rfl) (ps_cons (m_st0 (by first | exact m_bd q0 | exact m_no q1 q2 | exact m_45 q1 | exact m_87 q2)) (ps_cons (m_n s) (ps_cons (m_y s) (ps_cons (m_o s) (ps_cons rfl (ps_cons rfl (ps_cons (m_g (by first | exact m_bd q0 | exact m_45 q1 | exact (m_87 q2).trans q2.symm | exact (m_no q1 q2).trans q2.symm)) (ps_cons q3 ps_nil))))))))))))) ?_
  have p3 := of_decide_eq_true q3
  have e : nvG s = (0, 12) := by unfold nvG; rw [if_pos (by omega)]
  rw [e]
theorem rq4_leaf (s : ByteArray) (hs : s.size ≤ 1000000) (hg : ∀ j, j < cn s → good s j = true) (q0 : (bd s) = false) (q1 : (c1 s == 45) = false) (q2 : (c1 s == 8722) = false) (q3 : (decide ((((nst s (cn s)).2.2 : Nat) : Int) < 1)) = false) (q4 : (decide ((((nst s (cn s)).2.2 : Nat) : Int) > 20)) = true) : Gives P 12 #[.string s] (.tuple #[.int .i64 (nvG s).1, .int .i64 (nvG s).2]) := by
  refine gives_of_run (E := (rm_EG s hs hg)) (lv := 1) (ds := (.b true :: (.b false :: (.b false :: (.n 0 :: (.b false :: (.b true :: []))))))) (v := .tuple #[.int .i64 0, .int .i64 12]) (ps := [sP (fun _ => True) [.string s], (!(bd s)) = true, (c1 s == 45) = false, (c1 s == 8722) = false, Code.loop rm_b = innerOf P 12 0, (.string s : Value) = .string (tl s (k0 s)), (.int .i64 0 : Value) = .int .i64 ((nst s (k0 s)).1), (.int .i64 0 : Value) = .int .i64 (((nst s (k0 s)).2.2 : Nat) : Int), (.bool false : Value) = .bool ((nst s (k0 s)).2.1), (.int .i64 0 : Value) = .int .i64 0, (.int .i64 0 : Value) = .int .i64 0, (.bool (c1 s == 8722) : Value) = .bool (mi s), (decide ((((nst s (cn s)).2.2 : Nat) : Int) < 1)) = false, (decide ((((nst s (cn s)).2.2 : Nat) : Int) > 20)) = true]) mo (by kernel_rfl) (ps_cons trivial (ps_cons (neg_t q0) (ps_cons q1 (ps_cons q2 (ps_cons (by kernel_rfl) (ps_cons (m_st0 (by first | exact m_bd q0 | exact m_no q1 q2 | exact m_45 q1 | exact m_87 q2)) (ps_cons (m_n s) (ps_cons (m_y s) (ps_cons (m_o s) (ps_cons rfl (ps_cons rfl (ps_cons (m_g (by first | exact m_bd q0 | exact m_45 q1 | exact (m_87 q2).trans q2.symm | exact (m_no q1 q2).trans q2.symm)) (ps_cons q3 (ps_cons q4 ps_nil)))))))))))))) ?_
  have p3 := of_decide_eq_false q3
  have p4 := of_decide_eq_true q4
  have e : nvG s = (0, 12) := by unfold nvG; rw [if_pos (by omega)]
  rw [e]
theorem rq5_leaf (s : ByteArray) (hs : s.size ≤ 1000000) (hg : ∀ j, j < cn s → good s j = true) (q0 : (bd s) = false) (q1 : (c1 s == 45) = false) (q2 : (c1 s == 8722) = false) (q3 : (decide ((((nst s (cn s)).2.2 : Nat) : Int) < 1)) = false) (q4 : (decide ((((nst s (cn s)).2.2 : Nat) : Int) > 20)) = false) (q5 : ((nst s (cn s)).2.1) = true) : Gives P 12 #[.string s] (.tuple #[.int .i64 (nvG s).1, .int .i64 (nvG s).2]) := by
  refine gives_of_run (E := (rm_EG s hs hg)) (lv := 1) (ds := (.b true :: (.b false :: (.b false :: (.n 0 :: (.b false :: (.b false :: (.b true :: [])))))))) (v := .tuple #[.int .i64 0, .int .i64 20]) (ps := [sP (fun _ => True) [.string s], (!(bd s)) = true, (c1 s == 45) = false, (c1 s == 8722) = false, Code.loop rm_b = innerOf P 12 0, (.string s : Value) = .string (tl s (k0 s)), (.int .i64 0 : Value) = .int .i64 ((nst s (k0 s)).1), (.int .i64 0 : Value) = .int .i64 (((nst s (k0 s)).2.2 : Nat) : Int), (.bool false : Value) = .bool ((nst s (k0 s)).2.1), (.int .i64 0 : Value) = .int .i64 0, (.int .i64 0 : Value) = .int .i64 0, (.bool (c1 s == 8722) : Value) = .bool (mi s), (decide ((((nst s (cn s)).2.2 : Nat) : Int) < 1)) = false, (decide ((((nst s (cn s)).2.2 : Nat) : Int) > 20)) = false, ((nst s (cn s)).2.1) = true]) mo (by kernel_rfl) (ps_cons trivial (ps_cons (neg_t q0) (ps_cons q1 (ps_cons q2 (ps_cons (by kernel_rfl) (ps_cons (m_st0 (by first | exact m_bd q0 | exact m_no q1 q2 | exact m_45 q1 | exact m_87 q2)) (ps_cons (m_n s) (ps_cons (m_y s) (ps_cons (m_o s) (ps_cons rfl (ps_cons rfl (ps_cons (m_g (by first | exact m_bd q0 | exact m_45 q1 | exact (m_87 q2).trans q2.symm | exact (m_no q1 q2).trans q2.symm)) (ps_cons q3 (ps_cons q4 (ps_cons q5 ps_nil))))))))))))))) ?_
  have p3 := of_decide_eq_false q3
  have p4 := of_decide_eq_false q4
  have e : nvG s = (0, 20) := by unfold nvG; rw [if_neg (by omega), if_pos q5]
  rw [e]
theorem rq6_leaf (s : ByteArray) (hs : s.size ≤ 1000000) (hg : ∀ j, j < cn s → good s j = true) (q0 : (bd s) = false) (q1 : (c1 s == 45) = false) (q2 : (c1 s == 8722) = false) (q3 : (decide ((((nst s (cn s)).2.2 : Nat) : Int) < 1)) = false) (q4 : (decide ((((nst s (cn s)).2.2 : Nat) : Int) > 20)) = false) (q5 : ((nst s (cn s)).2.1) = false) (q6 : (mi s) = true) : Gives P 12 #[.string s] (.tuple #[.int .i64 (nvG s).1, .int .i64 (nvG s).2]) := by
  refine gives_of_run (E := (rm_EG s hs hg)) (lv := 1) (ds := (.b true :: (.b false :: (.b false :: (.n 0 :: (.b false :: (.b false :: (.b false :: (.b true :: []))))))))) (v := .tuple #[.int .i64 (IntKind.i64.wrap (0 - ((nst s (cn s)).1))), .int .i64 0]) (ps := [sP (fun _ => True) [.string s], (!(bd s)) = true, (c1 s == 45) = false, (c1 s == 8722) = false, Code.loop rm_b = innerOf P 12 0, (.string s : Value) = .string (tl s (k0 s)), (.int .i64 0 : Value) = .int .i64 ((nst s (k0 s)).1), (.int .i64 0 : Value) = .int .i64 (((nst s (k0 s)).2.2 : Nat) : Int), (.bool false : Value) = .bool ((nst s (k0 s)).2.1), (.int .i64 0 : Value) = .int .i64 0, (.int .i64 0 : Value) = .int .i64 0, (.bool (c1 s == 8722) : Value) = .bool (mi s), (decide ((((nst s (cn s)).2.2 : Nat) : Int) < 1)) = false, (decide ((((nst s (cn s)).2.2 : Nat) : Int) > 20)) = false, ((nst s (cn s)).2.1) = false, (mi s) = true]) mo (by kernel_rfl) (ps_cons trivial (ps_cons (neg_t q0) (ps_cons q1 (ps_cons q2 (ps_cons (by kernel_rfl) (ps_cons (m_st0 (by first | exact m_bd q0 | exact m_no q1 q2 | exact m_45 q1 | exact m_87 q2)) (ps_cons (m_n s) (ps_cons (m_y s) (ps_cons (m_o s) (ps_cons rfl (ps_cons rfl (ps_cons (m_g (by first | exact m_bd q0 | exact m_45 q1 | exact (m_87 q2).trans q2.symm | exact (m_no q1 q2).trans q2.symm)) (ps_cons q3 (ps_cons q4 (ps_cons q5 (ps_cons q6 ps_nil)))))))))))))))) ?_
  have p3 := of_decide_eq_false q3
  have p4 := of_decide_eq_false q4
  have e : nvG s = (IntKind.i64.wrap (0 - (nst s (cn s)).1), 0) := by unfold nvG; rw [if_neg (by omega), if_neg (by rw [q5]; simp), if_pos q6]
  rw [e]
theorem rq7_leaf (s : ByteArray) (hs : s.size ≤ 1000000) (hg : ∀ j, j < cn s → good s j = true) (q0 : (bd s) = false) (q1 : (c1 s == 45) = false) (q2 : (c1 s == 8722) = false) (q3 : (decide ((((nst s (cn s)).2.2 : Nat) : Int) < 1)) = false) (q4 : (decide ((((nst s (cn s)).2.2 : Nat) : Int) > 20)) = false) (q5 : ((nst s (cn s)).2.1) = false) (q6 : (mi s) = false) : Gives P 12 #[.string s] (.tuple #[.int .i64 (nvG s).1, .int .i64 (nvG s).2]) := by
  refine gives_of_run (E := (rm_EG s hs hg)) (lv := 1) (ds := (.b true :: (.b false :: (.b false :: (.n 0 :: (.b false :: (.b false :: (.b false :: (.b false :: []))))))))) (v := .tuple #[.int .i64 ((nst s (cn s)).1), .int .i64 0]) (ps := [sP (fun _ => True) [.string s], (!(bd s)) = true, (c1 s == 45) = false, (c1 s == 8722) = false, Code.loop rm_b = innerOf P 12 0, (.string s : Value) = .string (tl s (k0 s)), (.int .i64 0 : Value) = .int .i64 ((nst s (k0 s)).1), (.int .i64 0 : Value) = .int .i64 (((nst s (k0 s)).2.2 : Nat) : Int), (.bool false : Value) = .bool ((nst s (k0 s)).2.1), (.int .i64 0 : Value) = .int .i64 0, (.int .i64 0 : Value) = .int .i64 0, (.bool (c1 s == 8722) : Value) = .bool (mi s), (decide ((((nst s (cn s)).2.2 : Nat) : Int) < 1)) = false, (decide ((((nst s (cn s)).2.2 : Nat) : Int) > 20)) = false, ((nst s (cn s)).2.1) = false, (mi s) = false]) mo (by kernel_rfl) (ps_cons trivial (ps_cons (neg_t q0) (ps_cons q1 (ps_cons q2 (ps_cons (by kernel_rfl) (ps_cons (m_st0 (by first | exact m_bd q0 | exact m_no q1 q2 | exact m_45 q1 | exact m_87 q2)) (ps_cons (m_n s) (ps_cons (m_y s) (ps_cons (m_o s) (ps_cons rfl (ps_cons rfl (ps_cons (m_g (by first | exact m_bd q0 | exact m_45 q1 | exact (m_87 q2).trans q2.symm | exact (m_no q1 q2).trans q2.symm)) (ps_cons q3 (ps_cons q4 (ps_cons q5 (ps_cons q6 ps_nil)))))))))))))))) ?_
  have p3 := of_decide_eq_false q3
  have p4 := of_decide_eq_false q4
  have e : nvG s = ((nst s (cn s)).1, 0) := by unfold nvG; rw [if_neg (by omega), if_neg (by rw [q5]; simp), if_neg (by rw [q6]; simp)]
  rw [e]
theorem rq8_leaf (s : ByteArray) (hs : s.size ≤ 1000000) (hg : ∀ j, j < cn s → good s j = true) (q0 : (bd s) = false) (q1 : (c1 s == 45) = false) (q2 : (c1 s == 8722) = true) (q3 : (decide ((((nst s (cn s)).2.2 : Nat) : Int) < 1)) = false) (q4 : (decide ((((nst s (cn s)).2.2 : Nat) : Int) > 20)) = true) : Gives P 12 #[.string s] (.tuple #[.int .i64 (nvG s).1, .int .i64 (nvG s).2]) := by
  refine gives_of_run (E := (rm_EG s hs hg)) (lv := 1) (ds := (.b true :: (.b false :: (.b true :: (.n 0 :: (.b false :: (.b true :: []))))))) (v := .tuple #[.int .i64 0, .int .i64 12]) (ps := [sP (fun _ => True) [.string s], (!(bd s)) = true, (c1 s == 45) = false, (c1 s == 8722) = true, 0 ≤ n1 s ∧ n1 s ≤ ((s.size : Nat) : Int), Code.loop rm_b = innerOf P 12 0, (.string (s.extract (n1 s : Int).toNat s.size) : Value) = .string (tl s (k0 s)), (.int .i64 0 : Value) = .int .i64 ((nst s (k0 s)).1), (.int .i64 0 : Value) = .int .i64 (((nst s (k0 s)).2.2 : Nat) : Int), (.bool false : Value) = .bool ((nst s (k0 s)).2.1), (.int .i64 0 : Value) = .int .i64 0, (.int .i64 0 : Value) = .int .i64 0, (.bool (c1 s == 8722) : Value) = .bool (mi s), (decide ((((nst s (cn s)).2.2 : Nat) : Int) < 1)) = false, (decide ((((nst s (cn s)).2.2 : Nat) : Int) > 20)) = true]) mo (by kernel_rfl) (ps_cons trivial (ps_cons (neg_t q0) (ps_cons q1 (ps_cons q2 (ps_cons (m_sl (by first | exact m_bd q0 | exact m_no q1 q2 | exact m_45 q1 | exact m_87 q2)) (ps_cons (by kernel_rfl) (ps_cons (m_st1 (by first | exact m_bd q0 | exact m_no q1 q2 | exact m_45 q1 | exact m_87 q2)) (ps_cons (m_n s) (ps_cons (m_y s) (ps_cons (m_o s) (ps_cons rfl (ps_cons rfl (ps_cons (m_g (by first | exact m_bd q0 | exact m_45 q1 | exact (m_87 q2).trans q2.symm | exact (m_no q1 q2).trans q2.symm)) (ps_cons q3 (ps_cons q4 ps_nil))))))))))))))) ?_
  have p3 := of_decide_eq_false q3
  have p4 := of_decide_eq_true q4
  have e : nvG s = (0, 12) := by unfold nvG; rw [if_pos (by omega)]
  rw [e]
theorem rq9_leaf (s : ByteArray) (hs : s.size ≤ 1000000) (hg : ∀ j, j < cn s → good s j = true) (q0 : (bd s) = false) (q1 : (c1 s == 45) = false) (q2 : (c1 s == 8722) = true) (q3 : (decide ((((nst s (cn s)).2.2 : Nat) : Int) < 1)) = false) (q4 : (decide ((((nst s (cn s)).2.2 : Nat) : Int) > 20)) = false) (q5 : ((nst s (cn s)).2.1) = true) : Gives P 12 #[.string s] (.tuple #[.int .i64 (nvG s).1, .int .i64 (nvG s).2]) := by
  refine gives_of_run (E := (rm_EG s hs hg)) (lv := 1) (ds := (.b true :: (.b false :: (.b true :: (.n 0 :: (.b false :: (.b false :: (.b true :: [])))))))) (v := .tuple #[.int .i64 0, .int .i64 20]) (ps := [sP (fun _ => True) [.string s], (!(bd s)) = true, (c1 s == 45) = false, (c1 s == 8722) = true, 0 ≤ n1 s ∧ n1 s ≤ ((s.size : Nat) : Int), Code.loop rm_b = innerOf P 12 0, (.string (s.extract (n1 s : Int).toNat s.size) : Value) = .string (tl s (k0 s)), (.int .i64 0 : Value) = .int .i64 ((nst s (k0 s)).1), (.int .i64 0 : Value) = .int .i64 (((nst s (k0 s)).2.2 : Nat) : Int), (.bool false : Value) = .bool ((nst s (k0 s)).2.1), (.int .i64 0 : Value) = .int .i64 0, (.int .i64 0 : Value) = .int .i64 0, (.bool (c1 s == 8722) : Value) = .bool (mi s), (decide ((((nst s (cn s)).2.2 : Nat) : Int) < 1)) = false, (decide ((((nst s (cn s)).2.2 : Nat) : Int) > 20)) = false, ((nst s (cn s)).2.1) = true]) mo (by kernel_rfl) (ps_cons trivial (ps_cons (neg_t q0) (ps_cons q1 (ps_cons q2 (ps_cons (m_sl (by first | exact m_bd q0 | exact m_no q1 q2 | exact m_45 q1 | exact m_87 q2)) (ps_cons (by kernel_rfl) (ps_cons (m_st1 (by first | exact m_bd q0 | exact m_no q1 q2 | exact m_45 q1 | exact m_87 q2)) (ps_cons (m_n s) (ps_cons (m_y s) (ps_cons (m_o s) (ps_cons rfl (ps_cons rfl (ps_cons (m_g (by first | exact m_bd q0 | exact m_45 q1 | exact (m_87 q2).trans q2.symm | exact (m_no q1 q2).trans q2.symm)) (ps_cons q3 (ps_cons q4 (ps_cons q5 ps_nil)))))))))))))))) ?_
  have p3 := of_decide_eq_false q3
  have p4 := of_decide_eq_false q4
  have e : nvG s = (0, 20) := by unfold nvG; rw [if_neg (by omega), if_pos q5]
  rw [e]
theorem rq10_leaf (s : ByteArray) (hs : s.size ≤ 1000000) (hg : ∀ j, j < cn s → good s j = true) (q0 : (bd s) = false) (q1 : (c1 s == 45) = false) (q2 : (c1 s == 8722) = true) (q3 : (decide ((((nst s (cn s)).2.2 : Nat) : Int) < 1)) = false) (q4 : (decide ((((nst s (cn s)).2.2 : Nat) : Int) > 20)) = false) (q5 : ((nst s (cn s)).2.1) = false) (q6 : (mi s) = true) : Gives P 12 #[.string s] (.tuple #[.int .i64 (nvG s).1, .int .i64 (nvG s).2]) := by
  refine gives_of_run (E := (rm_EG s hs hg)) (lv := 1) (ds := (.b true :: (.b false :: (.b true :: (.n 0 :: (.b false :: (.b false :: (.b false :: (.b true :: []))))))))) (v := .tuple #[.int .i64 (IntKind.i64.wrap (0 - ((nst s (cn s)).1))), .int .i64 0]) (ps := [sP (fun _ => True) [.string s], (!(bd s)) = true, (c1 s == 45) = false, (c1 s == 8722) = true, 0 ≤ n1 s ∧ n1 s ≤ ((s.size : Nat) : Int), Code.loop rm_b = innerOf P 12 0, (.string (s.extract (n1 s : Int).toNat s.size) : Value) = .string (tl s (k0 s)), (.int .i64 0 : Value) = .int .i64 ((nst s (k0 s)).1), (.int .i64 0 : Value) = .int .i64 (((nst s (k0 s)).2.2 : Nat) : Int), (.bool false : Value) = .bool ((nst s (k0 s)).2.1), (.int .i64 0 : Value) = .int .i64 0, (.int .i64 0 : Value) = .int .i64 0, (.bool (c1 s == 8722) : Value) = .bool (mi s), (decide ((((nst s (cn s)).2.2 : Nat) : Int) < 1)) = false, (decide ((((nst s (cn s)).2.2 : Nat) : Int) > 20)) = false, ((nst s (cn s)).2.1) = false, (mi s) = true]) mo (by kernel_rfl) (ps_cons trivial (ps_cons (neg_t q0) (ps_cons q1 (ps_cons q2 (ps_cons (m_sl (by first | exact m_bd q0 | exact m_no q1 q2 | exact m_45 q1 | exact m_87 q2)) (ps_cons (by kernel_rfl) (ps_cons (m_st1 (by first | exact m_bd q0 | exact m_no q1 q2 | exact m_45 q1 | exact m_87 q2)) (ps_cons (m_n s) (ps_cons (m_y s) (ps_cons (m_o s) (ps_cons rfl (ps_cons rfl (ps_cons (m_g (by first | exact m_bd q0 | exact m_45 q1 | exact (m_87 q2).trans q2.symm | exact (m_no q1 q2).trans q2.symm)) (ps_cons q3 (ps_cons q4 (ps_cons q5 (ps_cons q6 ps_nil))))))))))))))))) ?_
  have p3 := of_decide_eq_false q3
  have p4 := of_decide_eq_false q4
  have e : nvG s = (IntKind.i64.wrap (0 - (nst s (cn s)).1), 0) := by unfold nvG; rw [if_neg (by omega), if_neg (by rw [q5]; simp), if_pos q6]
  rw [e]
theorem rq11_leaf (s : ByteArray) (hs : s.size ≤ 1000000) (hg : ∀ j, j < cn s → good s j = true) (q0 : (bd s) = false) (q1 : (c1 s == 45) = false) (q2 : (c1 s == 8722) = true) (q3 : (decide ((((nst s (cn s)).2.2 : Nat) : Int) < 1)) = false) (q4 : (decide ((((nst s (cn s)).2.2 : Nat) : Int) > 20)) = false) (q5 : ((nst s (cn s)).2.1) = false) (q6 : (mi s) = false) : Gives P 12 #[.string s] (.tuple #[.int .i64 (nvG s).1, .int .i64 (nvG s).2]) := by
  refine gives_of_run (E := (rm_EG s hs hg)) (lv := 1) (ds := (.b true :: (.b false :: (.b true :: (.n 0 :: (.b false :: (.b false :: (.b false :: (.b false :: []))))))))) (v := .tuple #[.int .i64 ((nst s (cn s)).1), .int .i64 0]) (ps := [sP (fun _ => True) [.string s], (!(bd s)) = true, (c1 s == 45) = false, (c1 s == 8722) = true, 0 ≤ n1 s ∧ n1 s ≤ ((s.size : Nat) : Int), Code.loop rm_b = innerOf P 12 0, (.string (s.extract (n1 s : Int).toNat s.size) : Value) = .string (tl s (k0 s)), (.int .i64 0 : Value) = .int .i64 ((nst s (k0 s)).1), (.int .i64 0 : Value) = .int .i64 (((nst s (k0 s)).2.2 : Nat) : Int), (.bool false : Value) = .bool ((nst s (k0 s)).2.1), (.int .i64 0 : Value) = .int .i64 0, (.int .i64 0 : Value) = .int .i64 0, (.bool (c1 s == 8722) : Value) = .bool (mi s), (decide ((((nst s (cn s)).2.2 : Nat) : Int) < 1)) = false, (decide ((((nst s (cn s)).2.2 : Nat) : Int) > 20)) = false, ((nst s (cn s)).2.1) = false, (mi s) = false]) mo (by kernel_rfl) (ps_cons trivial (ps_cons (neg_t q0) (ps_cons q1 (ps_cons q2 (ps_cons (m_sl (by first | exact m_bd q0 | exact m_no q1 q2 | exact m_45 q1 | exact m_87 q2)) (ps_cons (by kernel_rfl) (ps_cons (m_st1 (by first | exact m_bd q0 | exact m_no q1 q2 | exact m_45 q1 | exact m_87 q2)) (ps_cons (m_n s) (ps_cons (m_y s) (ps_cons (m_o s) (ps_cons rfl (ps_cons rfl (ps_cons (m_g (by first | exact m_bd q0 | exact m_45 q1 | exact (m_87 q2).trans q2.symm | exact (m_no q1 q2).trans q2.symm)) (ps_cons q3 (ps_cons q4 (ps_cons q5 (ps_cons q6 ps_nil))))))))))))))))) ?_
  have p3 := of_decide_eq_false q3
  have p4 := of_decide_eq_false q4
  have e : nvG s = ((nst s (cn s)).1, 0) := by unfold nvG; rw [if_neg (by omega), if_neg (by rw [q5]; simp), if_neg (by rw [q6]; simp)]
  rw [e]
theorem rq12_leaf (s : ByteArray) (hs : s.size ≤ 1000000) (hg : ∀ j, j < cn s → good s j = true) (q0 : (bd s) = false) (q1 : (c1 s == 45) = true) (q2 : (decide ((((nst s (cn s)).2.2 : Nat) : Int) < 1)) = false) (q3 : (decide ((((nst s (cn s)).2.2 : Nat) : Int) > 20)) = true) : Gives P 12 #[.string s] (.tuple #[.int .i64 (nvG s).1, .int .i64 (nvG s).2]) := by
  refine gives_of_run (E := (rm_EG s hs hg)) (lv := 1) (ds := (.b true :: (.b true :: (.lit :: (.n 0 :: (.b false :: (.b true :: []))))))) (v := .tuple #[.int .i64 0, .int .i64 12]) (ps := [sP (fun _ => True) [.string s], (!(bd s)) = true, (c1 s == 45) = true, 0 ≤ n1 s ∧ n1 s ≤ ((s.size : Nat) : Int), Code.loop rm_b = innerOf P 12 0, (.string (s.extract (n1 s : Int).toNat s.size) : Value) = .string (tl s (k0 s)), (.int .i64 0 : Value) = .int .i64 ((nst s (k0 s)).1), (.int .i64 0 : Value) = .int .i64 (((nst s (k0 s)).2.2 : Nat) : Int), (.bool false : Value) = .bool ((nst s (k0 s)).2.1), (.int .i64 0 : Value) = .int .i64 0, (.int .i64 0 : Value) = .int .i64 0, (.bool true : Value) = .bool (mi s), (decide ((((nst s (cn s)).2.2 : Nat) : Int) < 1)) = false, (decide ((((nst s (cn s)).2.2 : Nat) : Int) > 20)) = true]) mo (by kernel_rfl) (ps_cons trivial (ps_cons (neg_t q0) (ps_cons q1 (ps_cons (m_sl (by first | exact m_bd q0 | exact m_no q1 q2 | exact m_45 q1 | exact m_87 q2)) (ps_cons (by kernel_rfl) (ps_cons (m_st1 (by first | exact m_bd q0 | exact m_no q1 q2 | exact m_45 q1 | exact m_87 q2)) (ps_cons (m_n s) (ps_cons (m_y s) (ps_cons (m_o s) (ps_cons rfl (ps_cons rfl (ps_cons (m_g (by first | exact m_bd q0 | exact m_45 q1 | exact (m_87 q2).trans q2.symm | exact (m_no q1 q2).trans q2.symm)) (ps_cons q2 (ps_cons q3 ps_nil)))))))))))))) ?_
  have p2 := of_decide_eq_false q2
  have p3 := of_decide_eq_true q3
  have e : nvG s = (0, 12) := by unfold nvG; rw [if_pos (by omega)]
  rw [e]
theorem rq13_leaf (s : ByteArray) (hs : s.size ≤ 1000000) (hg : ∀ j, j < cn s → good s j = true) (q0 : (bd s) = false) (q1 : (c1 s == 45) = true) (q2 : (decide ((((nst s (cn s)).2.2 : Nat) : Int) < 1)) = false) (q3 : (decide ((((nst s (cn s)).2.2 : Nat) : Int) > 20)) = false) (q4 : ((nst s (cn s)).2.1) = true) : Gives P 12 #[.string s] (.tuple #[.int .i64 (nvG s).1, .int .i64 (nvG s).2]) := by
  refine gives_of_run (E := (rm_EG s hs hg)) (lv := 1) (ds := (.b true :: (.b true :: (.lit :: (.n 0 :: (.b false :: (.b false :: (.b true :: [])))))))) (v := .tuple #[.int .i64 0, .int .i64 20]) (ps := [sP (fun _ => True) [.string s], (!(bd s)) = true, (c1 s == 45) = true, 0 ≤ n1 s ∧ n1 s ≤ ((s.size : Nat) : Int), Code.loop rm_b = innerOf P 12 0, (.string (s.extract (n1 s : Int).toNat s.size) : Value) = .string (tl s (k0 s)), (.int .i64 0 : Value) = .int .i64 ((nst s (k0 s)).1), (.int .i64 0 : Value) = .int .i64 (((nst s (k0 s)).2.2 : Nat) : Int), (.bool false : Value) = .bool ((nst s (k0 s)).2.1), (.int .i64 0 : Value) = .int .i64 0, (.int .i64 0 : Value) = .int .i64 0, (.bool true : Value) = .bool (mi s), (decide ((((nst s (cn s)).2.2 : Nat) : Int) < 1)) = false, (decide ((((nst s (cn s)).2.2 : Nat) : Int) > 20)) = false, ((nst s (cn s)).2.1) = true]) mo (by kernel_rfl) (ps_cons trivial (ps_cons (neg_t q0) (ps_cons q1 (ps_cons (m_sl (by first | exact m_bd q0 | exact m_no q1 q2 | exact m_45 q1 | exact m_87 q2)) (ps_cons (by kernel_rfl) (ps_cons (m_st1 (by first | exact m_bd q0 | exact m_no q1 q2 | exact m_45 q1 | exact m_87 q2)) (ps_cons (m_n s) (ps_cons (m_y s) (ps_cons (m_o s) (ps_cons rfl (ps_cons rfl (ps_cons (m_g (by first | exact m_bd q0 | exact m_45 q1 | exact (m_87 q2).trans q2.symm | exact (m_no q1 q2).trans q2.symm)) (ps_cons q2 (ps_cons q3 (ps_cons q4 ps_nil))))))))))))))) ?_
  have p2 := of_decide_eq_false q2
  have p3 := of_decide_eq_false q3
  have e : nvG s = (0, 20) := by unfold nvG; rw [if_neg (by omega), if_pos q4]
  rw [e]
theorem rq14_leaf (s : ByteArray) (hs : s.size ≤ 1000000) (hg : ∀ j, j < cn s → good s j = true) (q0 : (bd s) = false) (q1 : (c1 s == 45) = true) (q2 : (decide ((((nst s (cn s)).2.2 : Nat) : Int) < 1)) = false) (q3 : (decide ((((nst s (cn s)).2.2 : Nat) : Int) > 20)) = false) (q4 : ((nst s (cn s)).2.1) = false) (q5 : (mi s) = true) : Gives P 12 #[.string s] (.tuple #[.int .i64 (nvG s).1, .int .i64 (nvG s).2]) := by
  refine gives_of_run (E := (rm_EG s hs hg)) (lv := 1) (ds := (.b true :: (.b true :: (.lit :: (.n 0 :: (.b false :: (.b false :: (.b false :: (.b true :: []))))))))) (v := .tuple #[.int .i64 (IntKind.i64.wrap (0 - ((nst s (cn s)).1))), .int .i64 0]) (ps := [sP (fun _ => True) [.string s], (!(bd s)) = true, (c1 s == 45) = true, 0 ≤ n1 s ∧ n1 s ≤ ((s.size : Nat) : Int), Code.loop rm_b = innerOf P 12 0, (.string (s.extract (n1 s : Int).toNat s.size) : Value) = .string (tl s (k0 s)), (.int .i64 0 : Value) = .int .i64 ((nst s (k0 s)).1), (.int .i64 0 : Value) = .int .i64 (((nst s (k0 s)).2.2 : Nat) : Int), (.bool false : Value) = .bool ((nst s (k0 s)).2.1), (.int .i64 0 : Value) = .int .i64 0, (.int .i64 0 : Value) = .int .i64 0, (.bool true : Value) = .bool (mi s), (decide ((((nst s (cn s)).2.2 : Nat) : Int) < 1)) = false, (decide ((((nst s (cn s)).2.2 : Nat) : Int) > 20)) = false, ((nst s (cn s)).2.1) = false, (mi s) = true]) mo (by kernel_rfl) (ps_cons trivial (ps_cons (neg_t q0) (ps_cons q1 (ps_cons (m_sl (by first | exact m_bd q0 | exact m_no q1 q2 | exact m_45 q1 | exact m_87 q2)) (ps_cons (by kernel_rfl) (ps_cons (m_st1 (by first | exact m_bd q0 | exact m_no q1 q2 | exact m_45 q1 | exact m_87 q2)) (ps_cons (m_n s) (ps_cons (m_y s) (ps_cons (m_o s) (ps_cons rfl (ps_cons rfl (ps_cons (m_g (by first | exact m_bd q0 | exact m_45 q1 | exact (m_87 q2).trans q2.symm | exact (m_no q1 q2).trans q2.symm)) (ps_cons q2 (ps_cons q3 (ps_cons q4 (ps_cons q5 ps_nil)))))))))))))))) ?_
  have p2 := of_decide_eq_false q2
  have p3 := of_decide_eq_false q3
  have e : nvG s = (IntKind.i64.wrap (0 - (nst s (cn s)).1), 0) := by unfold nvG; rw [if_neg (by omega), if_neg (by rw [q4]; simp), if_pos q5]
  rw [e]
theorem rq15_leaf (s : ByteArray) (hs : s.size ≤ 1000000) (hg : ∀ j, j < cn s → good s j = true) (q0 : (bd s) = false) (q1 : (c1 s == 45) = true) (q2 : (decide ((((nst s (cn s)).2.2 : Nat) : Int) < 1)) = false) (q3 : (decide ((((nst s (cn s)).2.2 : Nat) : Int) > 20)) = false) (q4 : ((nst s (cn s)).2.1) = false) (q5 : (mi s) = false) : Gives P 12 #[.string s] (.tuple #[.int .i64 (nvG s).1, .int .i64 (nvG s).2]) := by
  refine gives_of_run (E := (rm_EG s hs hg)) (lv := 1) (ds := (.b true :: (.b true :: (.lit :: (.n 0 :: (.b false :: (.b false :: (.b false :: (.b false :: []))))))))) (v := .tuple #[.int .i64 ((nst s (cn s)).1), .int .i64 0]) (ps := [sP (fun _ => True) [.string s], (!(bd s)) = true, (c1 s == 45) = true, 0 ≤ n1 s ∧ n1 s ≤ ((s.size : Nat) : Int), Code.loop rm_b = innerOf P 12 0, (.string (s.extract (n1 s : Int).toNat s.size) : Value) = .string (tl s (k0 s)), (.int .i64 0 : Value) = .int .i64 ((nst s (k0 s)).1), (.int .i64 0 : Value) = .int .i64 (((nst s (k0 s)).2.2 : Nat) : Int), (.bool false : Value) = .bool ((nst s (k0 s)).2.1), (.int .i64 0 : Value) = .int .i64 0, (.int .i64 0 : Value) = .int .i64 0, (.bool true : Value) = .bool (mi s), (decide ((((nst s (cn s)).2.2 : Nat) : Int) < 1)) = false, (decide ((((nst s (cn s)).2.2 : Nat) : Int) > 20)) = false, ((nst s (cn s)).2.1) = false, (mi s) = false]) mo (by kernel_rfl) (ps_cons trivial (ps_cons (neg_t q0) (ps_cons q1 (ps_cons (m_sl (by first | exact m_bd q0 | exact m_no q1 q2 | exact m_45 q1 | exact m_87 q2)) (ps_cons (by kernel_rfl) (ps_cons (m_st1 (by first | exact m_bd q0 | exact m_no q1 q2 | exact m_45 q1 | exact m_87 q2)) (ps_cons (m_n s) (ps_cons (m_y s) (ps_cons (m_o s) (ps_cons rfl (ps_cons rfl (ps_cons (m_g (by first | exact m_bd q0 | exact m_45 q1 | exact (m_87 q2).trans q2.symm | exact (m_no q1 q2).trans q2.symm)) (ps_cons q2 (ps_cons q3 (ps_cons q4 (ps_cons q5 ps_nil)))))))))))))))) ?_
  have p2 := of_decide_eq_false q2
  have p3 := of_decide_eq_false q3
  have e : nvG s = ((nst s (cn s)).1, 0) := by unfold nvG; rw [if_neg (by omega), if_neg (by rw [q4]; simp), if_neg (by rw [q5]; simp)]
  rw [e]
theorem rq16_leaf (s : ByteArray) (hs : s.size ≤ 1000000) (hg : ∀ j, j < cn s → good s j = true) (q0 : (bd s) = true) (q1 : (decide ((((nst s (cn s)).2.2 : Nat) : Int) < 1)) = false) (q2 : (decide ((((nst s (cn s)).2.2 : Nat) : Int) > 20)) = true) : Gives P 12 #[.string s] (.tuple #[.int .i64 (nvG s).1, .int .i64 (nvG s).2]) := by
  refine gives_of_run (E := (rm_EG s hs hg)) (lv := 1) (ds := (.b false :: (.lit :: (.lit :: (.n 0 :: (.b false :: (.b true :: []))))))) (v := .tuple #[.int .i64 0, .int .i64 12]) (ps := [sP (fun _ => True) [.string s], (!(bd s)) = false, Code.loop rm_b = innerOf P 12 0, (.string s : Value) = .string (tl s (k0 s)), (.int .i64 0 : Value) = .int .i64 ((nst s (k0 s)).1), (.int .i64 0 : Value) = .int .i64 (((nst s (k0 s)).2.2 : Nat) : Int), (.bool false : Value) = .bool ((nst s (k0 s)).2.1), (.int .i64 0 : Value) = .int .i64 0, (.int .i64 0 : Value) = .int .i64 0, (.bool false : Value) = .bool (mi s), (decide ((((nst s (cn s)).2.2 : Nat) : Int) < 1)) = false, (decide ((((nst s (cn s)).2.2 : Nat) : Int) > 20)) = true]) mo (by kernel_rfl) (ps_cons trivial (ps_cons (neg_f q0) (ps_cons (by kernel_rfl) (ps_cons (m_st0 (by first | exact m_bd q0 | exact m_no q1 q2 | exact m_45 q1 | exact m_87 q2)) (ps_cons (m_n s) (ps_cons (m_y s) (ps_cons (m_o s) (ps_cons rfl (ps_cons rfl (ps_cons (m_g (by first | exact m_bd q0 | exact m_45 q1 | exact (m_87 q2).trans q2.symm | exact (m_no q1 q2).trans q2.symm)) (ps_cons q1 (ps_cons q2 ps_nil)))))))))))) ?_
  have p1 := of_decide_eq_false q1
  have p2 := of_decide_eq_true q2
  have e : nvG s = (0, 12) := by unfold nvG; rw [if_pos (by omega)]
  rw [e]
theorem rq17_leaf (s : ByteArray) (hs : s.size ≤ 1000000) (hg : ∀ j, j < cn s → good s j = true) (q0 : (bd s) = true) (q1 : (decide ((((nst s (cn s)).2.2 : Nat) : Int) < 1)) = false) (q2 : (decide ((((nst s (cn s)).2.2 : Nat) : Int) > 20)) = false) (q3 : ((nst s (cn s)).2.1) = true) : Gives P 12 #[.string s] (.tuple #[.int .i64 (nvG s).1, .int .i64 (nvG s).2]) := by
  refine gives_of_run (E := (rm_EG s hs hg)) (lv := 1) (ds := (.b false :: (.lit :: (.lit :: (.n 0 :: (.b false :: (.b false :: (.b true :: [])))))))) (v := .tuple #[.int .i64 0, .int .i64 20]) (ps := [sP (fun _ => True) [.string s], (!(bd s)) = false, Code.loop rm_b = innerOf P 12 0, (.string s : Value) = .string (tl s (k0 s)), (.int .i64 0 : Value) = .int .i64 ((nst s (k0 s)).1), (.int .i64 0 : Value) = .int .i64 (((nst s (k0 s)).2.2 : Nat) : Int), (.bool false : Value) = .bool ((nst s (k0 s)).2.1), (.int .i64 0 : Value) = .int .i64 0, (.int .i64 0 : Value) = .int .i64 0, (.bool false : Value) = .bool (mi s), (decide ((((nst s (cn s)).2.2 : Nat) : Int) < 1)) = false, (decide ((((nst s (cn s)).2.2 : Nat) : Int) > 20)) = false, ((nst s (cn s)).2.1) = true]) mo (by kernel_rfl) (ps_cons trivial (ps_cons (neg_f q0) (ps_cons (by kernel_rfl) (ps_cons (m_st0 (by first | exact m_bd q0 | exact m_no q1 q2 | exact m_45 q1 | exact m_87 q2)) (ps_cons (m_n s) (ps_cons (m_y s) (ps_cons (m_o s) (ps_cons rfl (ps_cons rfl (ps_cons (m_g (by first | exact m_bd q0 | exact m_45 q1 | exact (m_87 q2).trans q2.symm | exact (m_no q1 q2).trans q2.symm)) (ps_cons q1 (ps_cons q2 (ps_cons q3 ps_nil))))))))))))) ?_
  have p1 := of_decide_eq_false q1
  have p2 := of_decide_eq_false q2
  have e : nvG s = (0, 20) := by unfold nvG; rw [if_neg (by omega), if_pos q3]
  rw [e]
theorem rq18_leaf (s : ByteArray) (hs : s.size ≤ 1000000) (hg : ∀ j, j < cn s → good s j = true) (q0 : (bd s) = true) (q1 : (decide ((((nst s (cn s)).2.2 : Nat) : Int) < 1)) = false) (q2 : (decide ((((nst s (cn s)).2.2 : Nat) : Int) > 20)) = false) (q3 : ((nst s (cn s)).2.1) = false) (q4 : (mi s) = true) : Gives P 12 #[.string s] (.tuple #[.int .i64 (nvG s).1, .int .i64 (nvG s).2]) := by
  refine gives_of_run (E := (rm_EG s hs hg)) (lv := 1) (ds := (.b false :: (.lit :: (.lit :: (.n 0 :: (.b false :: (.b false :: (.b false :: (.b true :: []))))))))) (v := .tuple #[.int .i64 (IntKind.i64.wrap (0 - ((nst s (cn s)).1))), .int .i64 0]) (ps := [sP (fun _ => True) [.string s], (!(bd s)) = false, Code.loop rm_b = innerOf P 12 0, (.string s : Value) = .string (tl s (k0 s)), (.int .i64 0 : Value) = .int .i64 ((nst s (k0 s)).1), (.int .i64 0 : Value) = .int .i64 (((nst s (k0 s)).2.2 : Nat) : Int), (.bool false : Value) = .bool ((nst s (k0 s)).2.1), (.int .i64 0 : Value) = .int .i64 0, (.int .i64 0 : Value) = .int .i64 0, (.bool false : Value) = .bool (mi s), (decide ((((nst s (cn s)).2.2 : Nat) : Int) < 1)) = false, (decide ((((nst s (cn s)).2.2 : Nat) : Int) > 20)) = false, ((nst s (cn s)).2.1) = false, (mi s) = true]) mo (by kernel_rfl) (ps_cons trivial (ps_cons (neg_f q0) (ps_cons (by kernel_rfl) (ps_cons (m_st0 (by first | exact m_bd q0 | exact m_no q1 q2 | exact m_45 q1 | exact m_87 q2)) (ps_cons (m_n s) (ps_cons (m_y s) (ps_cons (m_o s) (ps_cons rfl (ps_cons rfl (ps_cons (m_g (by first | exact m_bd q0 | exact m_45 q1 | exact (m_87 q2).trans q2.symm | exact (m_no q1 q2).trans q2.symm)) (ps_cons q1 (ps_cons q2 (ps_cons q3 (ps_cons q4 ps_nil)))))))))))))) ?_
  have p1 := of_decide_eq_false q1
  have p2 := of_decide_eq_false q2
  have e : nvG s = (IntKind.i64.wrap (0 - (nst s (cn s)).1), 0) := by unfold nvG; rw [if_neg (by omega), if_neg (by rw [q3]; simp), if_pos q4]
  rw [e]
theorem rq19_leaf (s : ByteArray) (hs : s.size ≤ 1000000) (hg : ∀ j, j < cn s → good s j = true) (q0 : (bd s) = true) (q1 : (decide ((((nst s (cn s)).2.2 : Nat) : Int) < 1)) = false) (q2 : (decide ((((nst s (cn s)).2.2 : Nat) : Int) > 20)) = false) (q3 : ((nst s (cn s)).2.1) = false) (q4 : (mi s) = false) : Gives P 12 #[.string s] (.tuple #[.int .i64 (nvG s).1, .int .i64 (nvG s).2]) := by
  refine gives_of_run (E := (rm_EG s hs hg)) (lv := 1) (ds := (.b false :: (.lit :: (.lit :: (.n 0 :: (.b false :: (.b false :: (.b false :: (.b false :: []))))))))) (v := .tuple #[.int .i64 ((nst s (cn s)).1), .int .i64 0]) (ps := [sP (fun _ => True) [.string s], (!(bd s)) = false, Code.loop rm_b = innerOf P 12 0, (.string s : Value) = .string (tl s (k0 s)), (.int .i64 0 : Value) = .int .i64 ((nst s (k0 s)).1), (.int .i64 0 : Value) = .int .i64 (((nst s (k0 s)).2.2 : Nat) : Int), (.bool false : Value) = .bool ((nst s (k0 s)).2.1), (.int .i64 0 : Value) = .int .i64 0, (.int .i64 0 : Value) = .int .i64 0, (.bool false : Value) = .bool (mi s), (decide ((((nst s (cn s)).2.2 : Nat) : Int) < 1)) = false, (decide ((((nst s (cn s)).2.2 : Nat) : Int) > 20)) = false, ((nst s (cn s)).2.1) = false, (mi s) = false]) mo (by kernel_rfl) (ps_cons trivial (ps_cons (neg_f q0) (ps_cons (by kernel_rfl) (ps_cons (m_st0 (by first | exact m_bd q0 | exact m_no q1 q2 | exact m_45 q1 | exact m_87 q2)) (ps_cons (m_n s) (ps_cons (m_y s) (ps_cons (m_o s) (ps_cons rfl (ps_cons rfl (ps_cons (m_g (by first | exact m_bd q0 | exact m_45 q1 | exact (m_87 q2).trans q2.symm | exact (m_no q1 q2).trans q2.symm)) (ps_cons q1 (ps_cons q2 (ps_cons q3 (ps_cons q4 ps_nil)))))))))))))) ?_
  have p1 := of_decide_eq_false q1
  have p2 := of_decide_eq_false q2
  have e : nvG s = ((nst s (cn s)).1, 0) := by unfold nvG; rw [if_neg (by omega), if_neg (by rw [q3]; simp), if_neg (by rw [q4]; simp)]
  rw [e]
theorem rm_good (s : ByteArray) (hs : s.size ≤ 1000000) (hg : ∀ j, j < cn s → good s j = true) : Gives P 12 #[.string s] (.tuple #[.int .i64 (nvG s).1, .int .i64 (nvG s).2]) := by
  cases q0 : (bd s) with
  | true =>
    cases q1 : (decide ((((nst s (cn s)).2.2 : Nat) : Int) < 1)) with
    | true =>
      exact rq0_leaf s hs hg q0 q1
    | false =>
      cases q2 : (decide ((((nst s (cn s)).2.2 : Nat) : Int) > 20)) with
      | true =>
        exact rq16_leaf s hs hg q0 q1 q2
      | false =>
        cases q3 : ((nst s (cn s)).2.1) with
        | true =>
          exact rq17_leaf s hs hg q0 q1 q2 q3
        | false =>
          cases q4 : (mi s) with
          | true =>
            exact rq18_leaf s hs hg q0 q1 q2 q3 q4
          | false =>
            exact rq19_leaf s hs hg q0 q1 q2 q3 q4
  | false =>
    cases q1 : (c1 s == 45) with
    | true =>
      cases q2 : (decide ((((nst s (cn s)).2.2 : Nat) : Int) < 1)) with
      | true =>
        exact rq1_leaf s hs hg q0 q1 q2
      | false =>
        cases q3 : (decide ((((nst s (cn s)).2.2 : Nat) : Int) > 20)) with
        | true =>
          exact rq12_leaf s hs hg q0 q1 q2 q3
        | false =>
          cases q4 : ((nst s (cn s)).2.1) with
          | true =>
            exact rq13_leaf s hs hg q0 q1 q2 q3 q4
          | false =>
            cases q5 : (mi s) with
            | true =>
              exact rq14_leaf s hs hg q0 q1 q2 q3 q4 q5
            | false =>
              exact rq15_leaf s hs hg q0 q1 q2 q3 q4 q5
    | false =>
      cases q2 : (c1 s == 8722) with
      | true =>
        cases q3 : (decide ((((nst s (cn s)).2.2 : Nat) : Int) < 1)) with
        | true =>
          exact rq2_leaf s hs hg q0 q1 q2 q3
        | false =>
          cases q4 : (decide ((((nst s (cn s)).2.2 : Nat) : Int) > 20)) with
          | true =>
            exact rq8_leaf s hs hg q0 q1 q2 q3 q4
          | false =>
            cases q5 : ((nst s (cn s)).2.1) with
            | true =>
              exact rq9_leaf s hs hg q0 q1 q2 q3 q4 q5
            | false =>
              cases q6 : (mi s) with
              | true =>
                exact rq10_leaf s hs hg q0 q1 q2 q3 q4 q5 q6
              | false =>
                exact rq11_leaf s hs hg q0 q1 q2 q3 q4 q5 q6
      | false =>
        cases q3 : (decide ((((nst s (cn s)).2.2 : Nat) : Int) < 1)) with
        | true =>
          exact rq3_leaf s hs hg q0 q1 q2 q3
        | false =>
          cases q4 : (decide ((((nst s (cn s)).2.2 : Nat) : Int) > 20)) with
          | true =>
            exact rq4_leaf s hs hg q0 q1 q2 q3 q4
          | false =>
            cases q5 : ((nst s (cn s)).2.1) with
            | true =>
              exact rq5_leaf s hs hg q0 q1 q2 q3 q4 q5
            | false =>
              cases q6 : (mi s) with
              | true =>
                exact rq6_leaf s hs hg q0 q1 q2 q3 q4 q5 q6
              | false =>
                exact rq7_leaf s hs hg q0 q1 q2 q3 q4 q5 q6
theorem rx0_leaf (s : ByteArray) (hs : s.size ≤ 1000000) (b : Nat) (hb : b < cn s) (hg : ∀ j, j < b → good s j = true) (hbad : good s b = false) (q0 : (bd s) = true) : Gives P 12 #[.string s] (.tuple #[.int .i64 0, .int .i64 12]) := by
  refine gives_of_run (E := (rm_EB s hs b hb hg hbad)) (lv := 1) (ds := (.b false :: (.lit :: (.lit :: (.n 0 :: []))))) (v := .tuple #[.int .i64 0, .int .i64 12]) (ps := [sP (fun _ => True) [.string s], (!(bd s)) = false, Code.loop rm_b = innerOf P 12 0, (.string s : Value) = .string (tl s (k0 s)), (.int .i64 0 : Value) = .int .i64 ((nst s (k0 s)).1), (.int .i64 0 : Value) = .int .i64 (((nst s (k0 s)).2.2 : Nat) : Int), (.bool false : Value) = .bool ((nst s (k0 s)).2.1), (.int .i64 0 : Value) = .int .i64 0, (.int .i64 0 : Value) = .int .i64 0, (.bool false : Value) = .bool (mi s)]) mo (by kernel_rfl) (ps_cons trivial (ps_cons (neg_f q0) (ps_cons (by kernel_rfl) (ps_cons (m_st0 (by first | exact m_bd q0 | exact m_no q1 q2 | exact m_45 q1 | exact m_87 q2)) (ps_cons (m_n s) (ps_cons (m_y s) (ps_cons (m_o s) (ps_cons rfl (ps_cons rfl (ps_cons (m_g (by first | exact m_bd q0 | exact m_45 q1 | exact (m_87 q2).trans q2.symm | exact (m_no q1 q2).trans q2.symm)) ps_nil)))))))))) ?_
  rfl
theorem rx1_leaf (s : ByteArray) (hs : s.size ≤ 1000000) (b : Nat) (hb : b < cn s) (hg : ∀ j, j < b → good s j = true) (hbad : good s b = false) (q0 : (bd s) = false) (q1 : (c1 s == 45) = true) : Gives P 12 #[.string s] (.tuple #[.int .i64 0, .int .i64 12]) := by
  refine gives_of_run (E := (rm_EB s hs b hb hg hbad)) (lv := 1) (ds := (.b true :: (.b true :: (.lit :: (.n 0 :: []))))) (v := .tuple #[.int .i64 0, .int .i64 12]) (ps := [sP (fun _ => True) [.string s], (!(bd s)) = true, (c1 s == 45) = true, 0 ≤ n1 s ∧ n1 s ≤ ((s.size : Nat) : Int), Code.loop rm_b = innerOf P 12 0, (.string (s.extract (n1 s : Int).toNat s.size) : Value) = .string (tl s (k0 s)), (.int .i64 0 : Value) = .int .i64 ((nst s (k0 s)).1), (.int .i64 0 : Value) = .int .i64 (((nst s (k0 s)).2.2 : Nat) : Int), (.bool false : Value) = .bool ((nst s (k0 s)).2.1), (.int .i64 0 : Value) = .int .i64 0, (.int .i64 0 : Value) = .int .i64 0, (.bool true : Value) = .bool (mi s)]) mo (by kernel_rfl) (ps_cons trivial (ps_cons (neg_t q0) (ps_cons q1 (ps_cons (m_sl (by first | exact m_bd q0 | exact m_no q1 q2 | exact m_45 q1 | exact m_87 q2)) (ps_cons (by kernel_rfl) (ps_cons (m_st1 (by first | exact m_bd q0 | exact m_no q1 q2 | exact m_45 q1 | exact m_87 q2)) (ps_cons (m_n s) (ps_cons (m_y s) (ps_cons (m_o s) (ps_cons rfl (ps_cons rfl (ps_cons (m_g (by first | exact m_bd q0 | exact m_45 q1 | exact (m_87 q2).trans q2.symm | exact (m_no q1 q2).trans q2.symm)) ps_nil)))))))))))) ?_
  rfl
theorem rx2_leaf (s : ByteArray) (hs : s.size ≤ 1000000) (b : Nat) (hb : b < cn s) (hg : ∀ j, j < b → good s j = true) (hbad : good s b = false) (q0 : (bd s) = false) (q1 : (c1 s == 45) = false) (q2 : (c1 s == 8722) = true) : Gives P 12 #[.string s] (.tuple #[.int .i64 0, .int .i64 12]) := by
  refine gives_of_run (E := (rm_EB s hs b hb hg hbad)) (lv := 1) (ds := (.b true :: (.b false :: (.b true :: (.n 0 :: []))))) (v := .tuple #[.int .i64 0, .int .i64 12]) (ps := [sP (fun _ => True) [.string s], (!(bd s)) = true, (c1 s == 45) = false, (c1 s == 8722) = true, 0 ≤ n1 s ∧ n1 s ≤ ((s.size : Nat) : Int), Code.loop rm_b = innerOf P 12 0, (.string (s.extract (n1 s : Int).toNat s.size) : Value) = .string (tl s (k0 s)), (.int .i64 0 : Value) = .int .i64 ((nst s (k0 s)).1), (.int .i64 0 : Value) = .int .i64 (((nst s (k0 s)).2.2 : Nat) : Int), (.bool false : Value) = .bool ((nst s (k0 s)).2.1), (.int .i64 0 : Value) = .int .i64 0, (.int .i64 0 : Value) = .int .i64 0, (.bool (c1 s == 8722) : Value) = .bool (mi s)]) mo (by kernel_rfl) (ps_cons trivial (ps_cons (neg_t q0) (ps_cons q1 (ps_cons q2 (ps_cons (m_sl (by first | exact m_bd q0 | exact m_no q1 q2 | exact m_45 q1 | exact m_87 q2)) (ps_cons (by kernel_rfl) (ps_cons (m_st1 (by first | exact m_bd q0 | exact m_no q1 q2 | exact m_45 q1 | exact m_87 q2)) (ps_cons (m_n s) (ps_cons (m_y s) (ps_cons (m_o s) (ps_cons rfl (ps_cons rfl (ps_cons (m_g (by first | exact m_bd q0 | exact m_45 q1 | exact (m_87 q2).trans q2.symm | exact (m_no q1 q2).trans q2.symm)) ps_nil))))))))))))) ?_
  rfl
theorem rx3_leaf (s : ByteArray) (hs : s.size ≤ 1000000) (b : Nat) (hb : b < cn s) (hg : ∀ j, j < b → good s j = true) (hbad : good s b = false) (q0 : (bd s) = false) (q1 : (c1 s == 45) = false) (q2 : (c1 s == 8722) = false) : Gives P 12 #[.string s] (.tuple #[.int .i64 0, .int .i64 12]) := by
  refine gives_of_run (E := (rm_EB s hs b hb hg hbad)) (lv := 1) (ds := (.b true :: (.b false :: (.b false :: (.n 0 :: []))))) (v := .tuple #[.int .i64 0, .int .i64 12]) (ps := [sP (fun _ => True) [.string s], (!(bd s)) = true, (c1 s == 45) = false, (c1 s == 8722) = false, Code.loop rm_b = innerOf P 12 0, (.string s : Value) = .string (tl s (k0 s)), (.int .i64 0 : Value) = .int .i64 ((nst s (k0 s)).1), (.int .i64 0 : Value) = .int .i64 (((nst s (k0 s)).2.2 : Nat) : Int), (.bool false : Value) = .bool ((nst s (k0 s)).2.1), (.int .i64 0 : Value) = .int .i64 0, (.int .i64 0 : Value) = .int .i64 0, (.bool (c1 s == 8722) : Value) = .bool (mi s)]) mo (by kernel_rfl) (ps_cons trivial (ps_cons (neg_t q0) (ps_cons q1 (ps_cons q2 (ps_cons (by kernel_rfl) (ps_cons (m_st0 (by first | exact m_bd q0 | exact m_no q1 q2 | exact m_45 q1 | exact m_87 q2)) (ps_cons (m_n s) (ps_cons (m_y s) (ps_cons (m_o s) (ps_cons rfl (ps_cons rfl (ps_cons (m_g (by first | exact m_bd q0 | exact m_45 q1 | exact (m_87 q2).trans q2.symm | exact (m_no q1 q2).trans q2.symm)) ps_nil)))))))))))) ?_
  rfl
theorem rm_bad (s : ByteArray) (hs : s.size ≤ 1000000) (b : Nat) (hb : b < cn s) (hg : ∀ j, j < b → good s j = true) (hbad : good s b = false) : Gives P 12 #[.string s] (.tuple #[.int .i64 0, .int .i64 12]) := by
  cases q0 : (bd s) with
  | true =>
    exact rx0_leaf s hs b hb hg hbad q0
  | false =>
    cases q1 : (c1 s == 45) with
    | true =>
      exact rx1_leaf s hs b hb hg hbad q0 q1
    | false =>
      cases q2 : (c1 s == 8722) with
      | true =>
        exact rx2_leaf s hs b hb hg hbad q0 q1 q2
      | false =>
        exact rx3_leaf s hs b hb hg hbad q0 q1 q2
end Go.Tx
