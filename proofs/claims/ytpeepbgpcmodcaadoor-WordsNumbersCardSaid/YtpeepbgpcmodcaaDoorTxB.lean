/-
  Words: runes: blanks, digits, what may stand. Printed by wdB.py.
-/
import Derived.Test.YtpeepbgpcmodcaaDoorTxA
set_option maxRecDepth 100000
namespace Go.Tx
open Go Go.RowKit Go.Sx Go.Proofs
theorem wr32 {n : Int} (h1 : -2147483648 ≤ n) (h2 : n ≤ 2147483647) : IntKind.i32.wrap n = n := by
  have e : IntKind.i32.wrap n = if n % 4294967296 ≥ 2147483648 then n % 4294967296 - 4294967296 else n % 4294967296 := by
    simp [IntKind.wrap, IntKind.signed, IntKind.bits]
  rw [e]
  split <;> omega
theorem neg_t {b : Bool} (h : b = false) : (!b) = true := by rw [h]; rfl
theorem neg_f {b : Bool} (h : b = true) : (!b) = false := by rw [h]; rfl
def bl (c : Int) : Bool := (c == 32) || ((c == 9) || ((c == 10) || ((c == 160) || (c == 12288))))
def dg (c : Int) : Int := if 48 ≤ c ∧ c ≤ 57 then c - 48 else if 65296 ≤ c ∧ c ≤ 65305 then c - 65296 else -1
def sd (c : Int) (bad : Bool) : Bool := !bad && ((decide (c ≥ 32) || bl c) && ((c != 127) && (c != 65533)))
theorem rb0_leaf (c : Int)  (q0 : (c == 32) = true) : Gives P 17 #[.int .i32 c] (.bool (bl c)) := by
  refine gives_of_run (E := Z0) (lv := 1) (ds := (.b true :: [])) (v := .bool true) (ps := [(c == 32) = true]) mo (by kernel_rfl) (ps_cons q0 ps_nil) ?_
  show _ = Value.bool (bl c)
  unfold bl
  rw [q0]
  rfl
theorem rb1_leaf (c : Int)  (q0 : (c == 32) = false) (q1 : (c == 9) = true) : Gives P 17 #[.int .i32 c] (.bool (bl c)) := by
  refine gives_of_run (E := Z0) (lv := 1) (ds := (.b false :: (.b true :: []))) (v := .bool true) (ps := [(c == 32) = false, (c == 9) = true]) mo (by kernel_rfl) (ps_cons q0 (ps_cons q1 ps_nil)) ?_
  show _ = Value.bool (bl c)
  unfold bl
  rw [q0, q1]
  rfl
theorem rb2_leaf (c : Int)  (q0 : (c == 32) = false) (q1 : (c == 9) = false) (q2 : (c == 10) = true) : Gives P 17 #[.int .i32 c] (.bool (bl c)) := by
  refine gives_of_run (E := Z0) (lv := 1) (ds := (.b false :: (.b false :: (.b true :: [])))) (v := .bool true) (ps := [(c == 32) = false, (c == 9) = false, (c == 10) = true]) mo (by kernel_rfl) (ps_cons q0 (ps_cons q1 (ps_cons q2 ps_nil))) ?_
  show _ = Value.bool (bl c)
  unfold bl
  rw [q0, q1, q2]
  rfl
theorem rb3_leaf (c : Int)  (q0 : (c == 32) = false) (q1 : (c == 9) = false) (q2 : (c == 10) = false) (q3 : (c == 160) = true) : Gives P 17 #[.int .i32 c] (.bool (bl c)) := by
  refine gives_of_run (E := Z0) (lv := 1) (ds := (.b false :: (.b false :: (.b false :: (.b true :: []))))) (v := .bool true) (ps := [(c == 32) = false, (c == 9) = false, (c == 10) = false, (c == 160) = true]) mo (by kernel_rfl) (ps_cons q0 (ps_cons q1 (ps_cons q2 (ps_cons q3 ps_nil)))) ?_
  show _ = Value.bool (bl c)
  unfold bl
  rw [q0, q1, q2, q3]
  rfl
theorem rb4_leaf (c : Int)  (q0 : (c == 32) = false) (q1 : (c == 9) = false) (q2 : (c == 10) = false) (q3 : (c == 160) = false) : Gives P 17 #[.int .i32 c] (.bool (bl c)) := by
  refine gives_of_run (E := Z0) (lv := 1) (ds := (.b false :: (.b false :: (.b false :: (.b false :: []))))) (v := .bool (c == 12288)) (ps := [(c == 32) = false, (c == 9) = false, (c == 10) = false, (c == 160) = false]) mo (by kernel_rfl) (ps_cons q0 (ps_cons q1 (ps_cons q2 (ps_cons q3 ps_nil)))) ?_
  show _ = Value.bool (bl c)
  unfold bl
  rw [q0, q1, q2, q3]
  rfl
theorem rb_ok (c : Int) : Gives P 17 #[.int .i32 c] (.bool (bl c)) := by
  cases q0 : (c == 32) with
  | true =>
    exact rb0_leaf c  q0
  | false =>
    cases q1 : (c == 9) with
    | true =>
      exact rb1_leaf c  q0 q1
    | false =>
      cases q2 : (c == 10) with
      | true =>
        exact rb2_leaf c  q0 q1 q2
      | false =>
        cases q3 : (c == 160) with
        | true =>
          exact rb3_leaf c  q0 q1 q2 q3
        | false =>
          exact rb4_leaf c  q0 q1 q2 q3
theorem wd0_leaf (c : Int)  (q0 : (decide (c ≥ 48)) = true) (q1 : (decide (c ≤ 57)) = true) : Gives P 26 #[.int .i32 c] (.tuple #[.int .i64 (if dg c < 0 then 0 else dg c), .bool (decide (0 ≤ dg c))]) := by
  refine gives_of_run (E := Z0) (lv := 1) (ds := (.b true :: (.b true :: []))) (v := .tuple #[.int .i64 (IntKind.i64.wrap (IntKind.i32.wrap (c - 48))), .bool true]) (ps := [(decide (c ≥ 48)) = true, (decide (c ≤ 57)) = true]) mo (by kernel_rfl) (ps_cons q0 (ps_cons q1 ps_nil)) ?_
  have p0 := of_decide_eq_true q0
  have p1 := of_decide_eq_true q1
  have e : dg c = c - 48 := by unfold dg; rw [if_pos (by omega)]
  rw [wr32 (by omega) (by omega), wr (by omega) (by omega)]
  rw [e, if_neg (by omega)]
  rw [show decide (0 ≤ c - 48) = true from decide_eq_true (by omega)]
theorem wd1_leaf (c : Int)  (q0 : (decide (c ≥ 48)) = false) (q1 : (decide (c ≥ 65296)) = true) (q2 : (decide (c ≤ 65305)) = true) : Gives P 26 #[.int .i32 c] (.tuple #[.int .i64 (if dg c < 0 then 0 else dg c), .bool (decide (0 ≤ dg c))]) := by
  refine gives_of_run (E := Z0) (lv := 1) (ds := (.b false :: (.lit :: (.b true :: (.b true :: []))))) (v := .tuple #[.int .i64 (IntKind.i64.wrap (IntKind.i32.wrap (c - 65296))), .bool true]) (ps := [(decide (c ≥ 48)) = false, (decide (c ≥ 65296)) = true, (decide (c ≤ 65305)) = true]) mo (by kernel_rfl) (ps_cons q0 (ps_cons q1 (ps_cons q2 ps_nil))) ?_
  have p0 := of_decide_eq_false q0
  have p1 := of_decide_eq_true q1
  have p2 := of_decide_eq_true q2
  have e : dg c = c - 65296 := by unfold dg; rw [if_neg (by omega), if_pos (by omega)]
  rw [wr32 (by omega) (by omega), wr (by omega) (by omega)]
  rw [e, if_neg (by omega)]
  rw [show decide (0 ≤ c - 65296) = true from decide_eq_true (by omega)]
theorem wd2_leaf (c : Int)  (q0 : (decide (c ≥ 48)) = false) (q1 : (decide (c ≥ 65296)) = false) : Gives P 26 #[.int .i32 c] (.tuple #[.int .i64 (if dg c < 0 then 0 else dg c), .bool (decide (0 ≤ dg c))]) := by
  refine gives_of_run (E := Z0) (lv := 1) (ds := (.b false :: (.lit :: (.b false :: [])))) (v := .tuple #[.int .i64 0, .bool false]) (ps := [(decide (c ≥ 48)) = false, (decide (c ≥ 65296)) = false]) mo (by kernel_rfl) (ps_cons q0 (ps_cons q1 ps_nil)) ?_
  have p0 := of_decide_eq_false q0
  have p1 := of_decide_eq_false q1
  have e : dg c = -1 := by unfold dg; rw [if_neg (by omega), if_neg (by omega)]
  rw [e]
  rfl
theorem wd3_leaf (c : Int)  (q0 : (decide (c ≥ 48)) = false) (q1 : (decide (c ≥ 65296)) = true) (q2 : (decide (c ≤ 65305)) = false) : Gives P 26 #[.int .i32 c] (.tuple #[.int .i64 (if dg c < 0 then 0 else dg c), .bool (decide (0 ≤ dg c))]) := by
  refine gives_of_run (E := Z0) (lv := 1) (ds := (.b false :: (.lit :: (.b true :: (.b false :: []))))) (v := .tuple #[.int .i64 0, .bool false]) (ps := [(decide (c ≥ 48)) = false, (decide (c ≥ 65296)) = true, (decide (c ≤ 65305)) = false]) mo (by kernel_rfl) (ps_cons q0 (ps_cons q1 (ps_cons q2 ps_nil))) ?_
  have p0 := of_decide_eq_false q0
  have p1 := of_decide_eq_true q1
  have p2 := of_decide_eq_false q2
  have e : dg c = -1 := by unfold dg; rw [if_neg (by omega), if_neg (by omega)]
  rw [e]
  rfl
theorem wd4_leaf (c : Int)  (q0 : (decide (c ≥ 48)) = true) (q1 : (decide (c ≤ 57)) = false) (q2 : (decide (c ≥ 65296)) = true) (q3 : (decide (c ≤ 65305)) = true) : Gives P 26 #[.int .i32 c] (.tuple #[.int .i64 (if dg c < 0 then 0 else dg c), .bool (decide (0 ≤ dg c))]) := by
  refine gives_of_run (E := Z0) (lv := 1) (ds := (.b true :: (.b false :: (.b true :: (.b true :: []))))) (v := .tuple #[.int .i64 (IntKind.i64.wrap (IntKind.i32.wrap (c - 65296))), .bool true]) (ps := [(decide (c ≥ 48)) = true, (decide (c ≤ 57)) = false, (decide (c ≥ 65296)) = true, (decide (c ≤ 65305)) = true]) mo (by kernel_rfl) (ps_cons q0 (ps_cons q1 (ps_cons q2 (ps_cons q3 ps_nil)))) ?_
  have p0 := of_decide_eq_true q0
  have p1 := of_decide_eq_false q1
  have p2 := of_decide_eq_true q2
  have p3 := of_decide_eq_true q3
  have e : dg c = c - 65296 := by unfold dg; rw [if_neg (by omega), if_pos (by omega)]
  rw [wr32 (by omega) (by omega), wr (by omega) (by omega)]
  rw [e, if_neg (by omega)]
  rw [show decide (0 ≤ c - 65296) = true from decide_eq_true (by omega)]
theorem wd5_leaf (c : Int)  (q0 : (decide (c ≥ 48)) = true) (q1 : (decide (c ≤ 57)) = false) (q2 : (decide (c ≥ 65296)) = false) : Gives P 26 #[.int .i32 c] (.tuple #[.int .i64 (if dg c < 0 then 0 else dg c), .bool (decide (0 ≤ dg c))]) := by
  refine gives_of_run (E := Z0) (lv := 1) (ds := (.b true :: (.b false :: (.b false :: [])))) (v := .tuple #[.int .i64 0, .bool false]) (ps := [(decide (c ≥ 48)) = true, (decide (c ≤ 57)) = false, (decide (c ≥ 65296)) = false]) mo (by kernel_rfl) (ps_cons q0 (ps_cons q1 (ps_cons q2 ps_nil))) ?_
  have p0 := of_decide_eq_true q0
  have p1 := of_decide_eq_false q1
  have p2 := of_decide_eq_false q2
  have e : dg c = -1 := by unfold dg; rw [if_neg (by omega), if_neg (by omega)]
  rw [e]
  rfl
theorem wd6_leaf (c : Int)  (q0 : (decide (c ≥ 48)) = true) (q1 : (decide (c ≤ 57)) = false) (q2 : (decide (c ≥ 65296)) = true) (q3 : (decide (c ≤ 65305)) = false) : Gives P 26 #[.int .i32 c] (.tuple #[.int .i64 (if dg c < 0 then 0 else dg c), .bool (decide (0 ≤ dg c))]) := by
  refine gives_of_run (E := Z0) (lv := 1) (ds := (.b true :: (.b false :: (.b true :: (.b false :: []))))) (v := .tuple #[.int .i64 0, .bool false]) (ps := [(decide (c ≥ 48)) = true, (decide (c ≤ 57)) = false, (decide (c ≥ 65296)) = true, (decide (c ≤ 65305)) = false]) mo (by kernel_rfl) (ps_cons q0 (ps_cons q1 (ps_cons q2 (ps_cons q3 ps_nil)))) ?_
  have p0 := of_decide_eq_true q0
  have p1 := of_decide_eq_false q1
  have p2 := of_decide_eq_true q2
  have p3 := of_decide_eq_false q3
  have e : dg c = -1 := by unfold dg; rw [if_neg (by omega), if_neg (by omega)]
  rw [e]
  rfl
theorem wd_ok (c : Int) : Gives P 26 #[.int .i32 c] (.tuple #[.int .i64 (if dg c < 0 then 0 else dg c), .bool (decide (0 ≤ dg c))]) := by
  cases q0 : (decide (c ≥ 48)) with
  | true =>
    cases q1 : (decide (c ≤ 57)) with
    | true =>
      exact wd0_leaf c  q0 q1
    | false =>
      cases q2 : (decide (c ≥ 65296)) with
      | true =>
        cases q3 : (decide (c ≤ 65305)) with
        | true =>
          exact wd4_leaf c  q0 q1 q2 q3
        | false =>
          exact wd6_leaf c  q0 q1 q2 q3
      | false =>
        exact wd5_leaf c  q0 q1 q2
  | false =>
    cases q1 : (decide (c ≥ 65296)) with
    | true =>
      cases q2 : (decide (c ≤ 65305)) with
      | true =>
        exact wd1_leaf c  q0 q1 q2
      | false =>
        exact wd3_leaf c  q0 q1 q2
    | false =>
      exact wd2_leaf c  q0 q1
def rP : List Value → Prop
  | [.int .i32 _] => True
  | _ => False
def rV (f : Int → Value) : List Value → Value
  | [.int .i32 c] => f c
  | _ => undef
theorem r_gives {g : FuncId} {f : Int → Value} (h : ∀ c, Gives P g #[.int .i32 c] (f c)) (args : List Value) (hp : rP args) : Gives P g args.toArray (rV f args) := by
  unfold rP at hp
  split at hp
  · exact h _
  · exact hp.elim
noncomputable def rb_c : Ctr P := ⟨17, rP, rV fun c => .bool (bl c), r_gives rb_ok⟩
noncomputable def wd_c : Ctr P := ⟨26, rP, rV fun c => .tuple #[.int .i64 (if dg c < 0 then 0 else dg c), .bool (decide (0 ≤ dg c))], r_gives wd_ok⟩
noncomputable def Z1 : Env P := ⟨⟨[rb_c], [], []⟩, [], 10, []⟩
theorem rs0_leaf (c : Int) (b : Bool)  (q0 : (b) = true) : Gives P 25 #[.int .i32 c, .bool b] (.bool (sd c b)) := by
  refine gives_of_run (E := Z1) (lv := 1) (ds := (.b false :: [])) (v := .bool false) (ps := [(!b) = false]) mo (by kernel_rfl) (ps_cons (neg_f q0) ps_nil) ?_
  show _ = Value.bool (sd c b)
  unfold sd
  rw [q0]
  rfl
theorem rs1_leaf (c : Int) (b : Bool)  (q0 : (b) = false) (q1 : (decide (c ≥ 32)) = true) (q2 : (c != 127) = true) : Gives P 25 #[.int .i32 c, .bool b] (.bool (sd c b)) := by
  refine gives_of_run (E := Z1) (lv := 1) (ds := (.b true :: (.b true :: (.lit :: (.b true :: []))))) (v := .bool (c != 65533)) (ps := [(!b) = true, (decide (c ≥ 32)) = true, (c != 127) = true]) mo (by kernel_rfl) (ps_cons (neg_t q0) (ps_cons q1 (ps_cons q2 ps_nil))) ?_
  show _ = Value.bool (sd c b)
  unfold sd
  rw [q0, q1, q2]
  rfl
theorem rs2_leaf (c : Int) (b : Bool)  (q0 : (b) = false) (q1 : (decide (c ≥ 32)) = false) (q2 : (bl c) = true) (q3 : (c != 127) = true) : Gives P 25 #[.int .i32 c, .bool b] (.bool (sd c b)) := by
  refine gives_of_run (E := Z1) (lv := 1) (ds := (.b true :: (.b false :: (.b true :: (.b true :: []))))) (v := .bool (c != 65533)) (ps := [(!b) = true, (decide (c ≥ 32)) = false, rP [.int .i32 c], (bl c) = true, (c != 127) = true]) mo (by kernel_rfl) (ps_cons (neg_t q0) (ps_cons q1 (ps_cons trivial (ps_cons q2 (ps_cons q3 ps_nil))))) ?_
  show _ = Value.bool (sd c b)
  unfold sd
  rw [q0, q1, q2, q3]
  rfl
theorem rs3_leaf (c : Int) (b : Bool)  (q0 : (b) = false) (q1 : (decide (c ≥ 32)) = false) (q2 : (bl c) = false) : Gives P 25 #[.int .i32 c, .bool b] (.bool (sd c b)) := by
  refine gives_of_run (E := Z1) (lv := 1) (ds := (.b true :: (.b false :: (.b false :: [])))) (v := .bool false) (ps := [(!b) = true, (decide (c ≥ 32)) = false, rP [.int .i32 c], (bl c) = false]) mo (by kernel_rfl) (ps_cons (neg_t q0) (ps_cons q1 (ps_cons trivial (ps_cons q2 ps_nil)))) ?_
  show _ = Value.bool (sd c b)
  unfold sd
  rw [q0, q1, q2]
  rfl
theorem rs4_leaf (c : Int) (b : Bool)  (q0 : (b) = false) (q1 : (decide (c ≥ 32)) = false) (q2 : (bl c) = true) (q3 : (c != 127) = false) : Gives P 25 #[.int .i32 c, .bool b] (.bool (sd c b)) := by
  refine gives_of_run (E := Z1) (lv := 1) (ds := (.b true :: (.b false :: (.b true :: (.b false :: []))))) (v := .bool false) (ps := [(!b) = true, (decide (c ≥ 32)) = false, rP [.int .i32 c], (bl c) = true, (c != 127) = false]) mo (by kernel_rfl) (ps_cons (neg_t q0) (ps_cons q1 (ps_cons trivial (ps_cons q2 (ps_cons q3 ps_nil))))) ?_
  show _ = Value.bool (sd c b)
  unfold sd
  rw [q0, q1, q2, q3]
  rfl
theorem rs5_leaf (c : Int) (b : Bool)  (q0 : (b) = false) (q1 : (decide (c ≥ 32)) = true) (q2 : (c != 127) = false) : Gives P 25 #[.int .i32 c, .bool b] (.bool (sd c b)) := by
  refine gives_of_run (E := Z1) (lv := 1) (ds := (.b true :: (.b true :: (.lit :: (.b false :: []))))) (v := .bool false) (ps := [(!b) = true, (decide (c ≥ 32)) = true, (c != 127) = false]) mo (by kernel_rfl) (ps_cons (neg_t q0) (ps_cons q1 (ps_cons q2 ps_nil))) ?_
  show _ = Value.bool (sd c b)
  unfold sd
  rw [q0, q1, q2]
  rfl
theorem rs_ok (c : Int) (b : Bool) : Gives P 25 #[.int .i32 c, .bool b] (.bool (sd c b)) := by
  rcases Bool.eq_false_or_eq_true (b) with q0 | q0
  · exact rs0_leaf c b  q0
  · cases q1 : (decide (c ≥ 32)) with
    | true =>
      cases q2 : (c != 127) with
      | true =>
        exact rs1_leaf c b  q0 q1 q2
      | false =>
        exact rs5_leaf c b  q0 q1 q2
    | false =>
      cases q2 : (bl c) with
      | true =>
        cases q3 : (c != 127) with
        | true =>
          exact rs2_leaf c b  q0 q1 q2 q3
        | false =>
          exact rs4_leaf c b  q0 q1 q2 q3
      | false =>
        exact rs3_leaf c b  q0 q1 q2
def rsP : List Value → Prop
  | [.int .i32 _, .bool _] => True
  | _ => False
def rsV : List Value → Value
  | [.int .i32 c, .bool b] => .bool (sd c b)
  | _ => undef
theorem rs_gives (args : List Value) (hp : rsP args) : Gives P 25 args.toArray (rsV args) := by
  unfold rsP at hp
  split at hp
  · exact rs_ok _ _
  · exact hp.elim
noncomputable def rs_c : Ctr P := ⟨25, rsP, rsV, rs_gives⟩
end Go.Tx
