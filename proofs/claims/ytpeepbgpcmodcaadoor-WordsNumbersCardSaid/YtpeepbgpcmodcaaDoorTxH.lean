/-
  Words: rounds of the loop over a text, by words.Split. Printed by wdH.py.
-/
import Derived.Test.YtpeepbgpcmodcaaDoorTxS
set_option maxRecDepth 100000
namespace Go.Tx
open Go Go.RowKit Go.Sx Go.Proofs
def wv (w : Int × ByteArray) : Value := .agg #[.int .i64 w.1, .string w.2]
def wAt (L : List (Int × ByteArray)) (j : Nat) : Int × ByteArray := L.getD j (0, ByteArray.empty)
def we (L : List (Int × ByteArray)) (j : Nat) : Value := .agg #[.int .i64 (wAt L j).1, .string (wAt L j).2]
theorem we_app (L : List (Int × ByteArray)) (w : Int × ByteArray) : ∀ j, j < (L ++ [w]).length → (bif Nat.beq j L.length then wv w else we L j) = we (L ++ [w]) j := by
  intro j hj
  unfold we wAt
  cases hb : Nat.beq j L.length with
  | true =>
    have := Nat.eq_of_beq_eq_true hb
    subst this
    simp [wv]
  | false =>
    have : j < L.length := by
      have := Nat.ne_of_beq_eq_false hb
      simp at hj
      omega
    simp [List.getD, List.getElem?_append_left this]
theorem we_one (w : Int × ByteArray) : ∀ j, j < ([w] : List (Int × ByteArray)).length → (bif Nat.beq j 0 then wv w else undef) = we [w] j := by
  intro j hj
  have : j = 0 := by simp at hj; exact hj
  subst this
  rfl
def rfAsg : Code → Code
  | .rangeFunc _ _ x _ => x
  | c => c
def rfBody : Code → Code
  | .rangeFunc _ _ _ y => y
  | c => c
noncomputable def sp_asg : Code := rfAsg (innerOf P 9 0)
noncomputable def sp_body : Code := rfBody (innerOf P 9 0)
noncomputable def Z8 : Env P := ⟨⟨[kd_c], [], []⟩, [], 10, []⟩
noncomputable def sp_rec : LoopS := (⟨.ready, none, [(5, .ptr 3 0), (4, .v (.int .i64 0)), (3, .ptr 1 0), (2, .ptr 0 0)], 18, [9], sp_asg, sp_body⟩ : LoopS)
noncomputable def sp_b : Code := bodyOf (innerOf P 31 0)
noncomputable def spN_st (s : ByteArray) (b f a : Int) (d : Bool) (p : Nat) : St := ⟨[(5, .v (.int .i64 b)), (6, .v (.int .i64 f)), (11, .ptr 17 0), (0, .yld 13), (1, .ptr 7 0), (2, .ptr 9 0), (3, .ptr 8 0)], [(0, (.whole (.slice none 0 0), 24)), (1, (.whole (.int .i64 a), 3)), (3, (.whole (.bool d), 4)), (7, (.whole (.string s), 9)), (8, (.parts [.ptr 1 0], 51)), (9, (.parts [.ptr 3 0], 52)), (17, (.iter s p, 0))], [(13, sp_rec)], [900, 17, 13, 9, 8, 7, 3, 1, 0], []⟩
noncomputable def spR_st (L : List (Int × ByteArray)) (s : ByteArray) (b f a : Int) (d : Bool) (p : Nat) : St := ⟨[(5, .v (.int .i64 b)), (6, .v (.int .i64 f)), (11, .ptr 17 0), (0, .yld 13), (1, .ptr 7 0), (2, .ptr 9 0), (3, .ptr 8 0)], [(0, (.parts [.row 900], 24)), (1, (.whole (.int .i64 a), 3)), (3, (.whole (.bool d), 4)), (7, (.whole (.string s), 9)), (8, (.parts [.ptr 1 0], 51)), (9, (.parts [.ptr 3 0], 52)), (17, (.iter s p, 0))], [(13, sp_rec)], [900, 17, 13, 9, 8, 7, 3, 1, 0], [(900, some ⟨38, 2, L.length, we L, true⟩)]⟩
theorem spN0 (s : ByteArray) (b f a : Int) (d : Bool) (p : Nat) (k_ : Nat) : stepF P Z8 2 64 sp_b (spN_st s b f a d p) (.b true :: (.lit :: (.b true :: []))) 1000 (fun _ => some (spN_st s b f a true (p + (Utf8.decode s p).2))) k_ =
  some (.ret, k_, [p < s.size, rP [.int .i32 ((Utf8.decode s p).1 : Int)], (kd ((Utf8.decode s p).1 : Int) == 2) = true, (.int .i64 b : Value) = .int .i64 b, (.int .i64 f : Value) = .int .i64 f, (.ptr 17 0 : SV) = .ptr 17 0, (.yld 13 : SV) = .yld 13, (.ptr 7 0 : SV) = .ptr 7 0, (.ptr 9 0 : SV) = .ptr 9 0, (.ptr 8 0 : SV) = .ptr 8 0, (.slice none 0 0 : Value) = .slice none 0 0, (.int .i64 a : Value) = .int .i64 a, (.bool true : Value) = .bool true, (.string s : Value) = .string s, (.ptr 1 0 : SV) = .ptr 1 0, (.ptr 3 0 : SV) = .ptr 3 0, s = s, p + (Utf8.decode s p).2 = p + (Utf8.decode s p).2, lsub sp_rec (⟨.ready, none, [(5, .ptr 3 0), (4, .v (.int .i64 0)), (3, .ptr 1 0), (2, .ptr 0 0)], 18, [9], sp_asg, sp_body⟩ : LoopS)]) := by kernel_rfl
theorem spN0_ok (s : ByteArray) (b f a : Int) (d : Bool) (p : Nat) (q0 : p < s.size) (q1 : (kd ((Utf8.decode s p).1 : Int) == 2) = true)  {good : Out → St → Prop} (hg : ∀ S1, Keeps S1 (spN_st s b f a true (p + (Utf8.decode s p).2)) → good .ret S1) : StepTo P Z8 2 64 sp_b (spN_st s b f a d p) good :=
  step_run (spN0 s b f a d p) (ps_cons q0 (ps_cons trivial (ps_cons q1 (ps_cons rfl (ps_cons rfl (ps_cons rfl (ps_cons rfl (ps_cons rfl (ps_cons rfl (ps_cons rfl (ps_cons rfl (ps_cons rfl (ps_cons rfl (ps_cons rfl (ps_cons rfl (ps_cons rfl (ps_cons rfl (ps_cons rfl (ps_cons (lsub_of ⟨⟨rfl, rfl, rfl⟩, ⟨rfl, rfl, rfl⟩, ⟨rfl, rfl, rfl, rfl, trivial⟩⟩) ps_nil))))))))))))))))))) rfl hg
theorem spN1 (s : ByteArray) (b f a : Int) (d : Bool) (p : Nat) (k_ : Nat) : stepF P Z8 2 64 sp_b (spN_st s b f a d p) (.b false :: []) 1000 (fun _ => some (spN_st s b f a d p)) k_ =
  some ((.exit 0), k_, [¬ p < s.size, (.int .i64 b : Value) = .int .i64 b, (.int .i64 f : Value) = .int .i64 f, (.ptr 17 0 : SV) = .ptr 17 0, (.yld 13 : SV) = .yld 13, (.ptr 7 0 : SV) = .ptr 7 0, (.ptr 9 0 : SV) = .ptr 9 0, (.ptr 8 0 : SV) = .ptr 8 0, (.slice none 0 0 : Value) = .slice none 0 0, (.int .i64 a : Value) = .int .i64 a, (.bool d : Value) = .bool d, (.string s : Value) = .string s, (.ptr 1 0 : SV) = .ptr 1 0, (.ptr 3 0 : SV) = .ptr 3 0, s = s, p = p, lsub sp_rec (⟨.ready, none, [(5, .ptr 3 0), (4, .v (.int .i64 0)), (3, .ptr 1 0), (2, .ptr 0 0)], 18, [9], sp_asg, sp_body⟩ : LoopS)]) := by kernel_rfl
theorem spN1_ok (s : ByteArray) (b f a : Int) (d : Bool) (p : Nat) (q0 : ¬ p < s.size)  {good : Out → St → Prop} (hg : ∀ S1, Keeps S1 (spN_st s b f a d p) → good (.exit 0) S1) : StepTo P Z8 2 64 sp_b (spN_st s b f a d p) good :=
  step_run (spN1 s b f a d p) (ps_cons q0 (ps_cons rfl (ps_cons rfl (ps_cons rfl (ps_cons rfl (ps_cons rfl (ps_cons rfl (ps_cons rfl (ps_cons rfl (ps_cons rfl (ps_cons rfl (ps_cons rfl (ps_cons rfl (ps_cons rfl (ps_cons rfl (ps_cons rfl (ps_cons (lsub_of ⟨⟨rfl, rfl, rfl⟩, ⟨rfl, rfl, rfl⟩, ⟨rfl, rfl, rfl, rfl, trivial⟩⟩) ps_nil))))))))))))))))) rfl hg
theorem spN2 (s : ByteArray) (b f a : Int) (d : Bool) (p : Nat) (k_ : Nat) : stepF P Z8 2 64 sp_b (spN_st s b f a d p) (.b true :: (.lit :: (.b false :: (.b true :: (.b true :: []))))) 1000 (fun _ => some (spN_st s a (p : Int) (IntKind.i64.wrap (a + 1)) d (p + (Utf8.decode s p).2))) k_ =
  some (.normal, k_, [p < s.size, rP [.int .i32 ((Utf8.decode s p).1 : Int)], (kd ((Utf8.decode s p).1 : Int) == 2) = false, (kd ((Utf8.decode s p).1 : Int) == 0) = true, (decide (b < 0)) = true, (.int .i64 a : Value) = .int .i64 a, (.int .i64 (p : Int) : Value) = .int .i64 (p : Int), (.ptr 17 0 : SV) = .ptr 17 0, (.yld 13 : SV) = .yld 13, (.ptr 7 0 : SV) = .ptr 7 0, (.ptr 9 0 : SV) = .ptr 9 0, (.ptr 8 0 : SV) = .ptr 8 0, (.slice none 0 0 : Value) = .slice none 0 0, (.int .i64 (IntKind.i64.wrap (a + 1)) : Value) = .int .i64 (IntKind.i64.wrap (a + 1)), (.bool d : Value) = .bool d, (.string s : Value) = .string s, (.ptr 1 0 : SV) = .ptr 1 0, (.ptr 3 0 : SV) = .ptr 3 0, s = s, p + (Utf8.decode s p).2 = p + (Utf8.decode s p).2, lsub sp_rec (⟨.ready, none, [(5, .ptr 3 0), (4, .v (.int .i64 0)), (3, .ptr 1 0), (2, .ptr 0 0)], 18, [9], sp_asg, sp_body⟩ : LoopS)]) := by kernel_rfl
theorem spN2_ok (s : ByteArray) (b f a : Int) (d : Bool) (p : Nat) (q0 : p < s.size) (q1 : (kd ((Utf8.decode s p).1 : Int) == 2) = false) (q2 : (kd ((Utf8.decode s p).1 : Int) == 0) = true) (q3 : (decide (b < 0)) = true)  {good : Out → St → Prop} (hg : ∀ S1, Keeps S1 (spN_st s a (p : Int) (IntKind.i64.wrap (a + 1)) d (p + (Utf8.decode s p).2)) → good .normal S1) : StepTo P Z8 2 64 sp_b (spN_st s b f a d p) good :=
  step_run (spN2 s b f a d p) (ps_cons q0 (ps_cons trivial (ps_cons q1 (ps_cons q2 (ps_cons q3 (ps_cons rfl (ps_cons rfl (ps_cons rfl (ps_cons rfl (ps_cons rfl (ps_cons rfl (ps_cons rfl (ps_cons rfl (ps_cons rfl (ps_cons rfl (ps_cons rfl (ps_cons rfl (ps_cons rfl (ps_cons rfl (ps_cons rfl (ps_cons (lsub_of ⟨⟨rfl, rfl, rfl⟩, ⟨rfl, rfl, rfl⟩, ⟨rfl, rfl, rfl, rfl, trivial⟩⟩) ps_nil))))))))))))))))))))) rfl hg
theorem spN3 (s : ByteArray) (b f a : Int) (d : Bool) (p : Nat) (k_ : Nat) : stepF P Z8 2 64 sp_b (spN_st s b f a d p) (.b true :: (.lit :: (.b false :: (.b false :: (.lit :: (.b true :: (.b true :: []))))))) 1000 (fun _ => some (spR_st ([(b, s.extract (f : Int).toNat ((p : Int) : Int).toNat)] : List (Int × ByteArray)) s (-1) f (IntKind.i64.wrap (a + 1)) d (p + (Utf8.decode s p).2))) k_ =
  some (.normal, k_, [p < s.size, rP [.int .i32 ((Utf8.decode s p).1 : Int)], (kd ((Utf8.decode s p).1 : Int) == 2) = false, (kd ((Utf8.decode s p).1 : Int) == 0) = false, (kd ((Utf8.decode s p).1 : Int) == 1) = true, (decide (b ≥ 0)) = true, 0 ≤ (p : Int) ∧ (p : Int) ≤ ((s.size : Nat) : Int), 0 ≤ f ∧ f ≤ ((((p : Int) : Int).toNat : Nat) : Int), 0 < 1000000, (.int .i64 (-1) : Value) = .int .i64 (-1), (.int .i64 f : Value) = .int .i64 f, (.ptr 17 0 : SV) = .ptr 17 0, (.yld 13 : SV) = .yld 13, (.ptr 7 0 : SV) = .ptr 7 0, (.ptr 9 0 : SV) = .ptr 9 0, (.ptr 8 0 : SV) = .ptr 8 0, (.row 1040 : SV) = .row 1040, (.int .i64 (IntKind.i64.wrap (a + 1)) : Value) = .int .i64 (IntKind.i64.wrap (a + 1)), (.bool d : Value) = .bool d, (.string s : Value) = .string s, (.ptr 1 0 : SV) = .ptr 1 0, (.ptr 3 0 : SV) = .ptr 3 0, s = s, p + (Utf8.decode s p).2 = p + (Utf8.decode s p).2, lsub sp_rec (⟨.ready, none, [(5, .ptr 3 0), (4, .v (.int .i64 0)), (3, .ptr 1 0), (2, .ptr 0 0)], 18, [9], sp_asg, sp_body⟩ : LoopS), 1 = ([(b, s.extract (f : Int).toNat ((p : Int) : Int).toNat)] : List (Int × ByteArray)).length, ∀ j, j < ([(b, s.extract (f : Int).toNat ((p : Int) : Int).toNat)] : List (Int × ByteArray)).length → (bif Nat.beq j 0 then (.agg #[.int .i64 b, .string (s.extract (f : Int).toNat ((p : Int) : Int).toNat)] : Value) else undef) = we ([(b, s.extract (f : Int).toNat ((p : Int) : Int).toNat)] : List (Int × ByteArray)) j]) := by kernel_rfl
theorem spN3_ok (s : ByteArray) (b f a : Int) (d : Bool) (p : Nat) (q0 : p < s.size) (q1 : (kd ((Utf8.decode s p).1 : Int) == 2) = false) (q2 : (kd ((Utf8.decode s p).1 : Int) == 0) = false) (q3 : (kd ((Utf8.decode s p).1 : Int) == 1) = true) (q4 : (decide (b ≥ 0)) = true) (x0 : 0 ≤ (p : Int) ∧ (p : Int) ≤ ((s.size : Nat) : Int)) (x1 : 0 ≤ f ∧ f ≤ ((((p : Int) : Int).toNat : Nat) : Int)) {good : Out → St → Prop} (hg : ∀ S1, Keeps S1 (spR_st ([(b, s.extract (f : Int).toNat ((p : Int) : Int).toNat)] : List (Int × ByteArray)) s (-1) f (IntKind.i64.wrap (a + 1)) d (p + (Utf8.decode s p).2)) → good .normal S1) : StepTo P Z8 2 64 sp_b (spN_st s b f a d p) good :=
  step_run (spN3 s b f a d p) (ps_cons q0 (ps_cons trivial (ps_cons q1 (ps_cons q2 (ps_cons q3 (ps_cons q4 (ps_cons x0 (ps_cons x1 (ps_cons (by decide) (ps_cons rfl (ps_cons rfl (ps_cons rfl (ps_cons rfl (ps_cons rfl (ps_cons rfl (ps_cons rfl (ps_cons rfl (ps_cons rfl (ps_cons rfl (ps_cons rfl (ps_cons rfl (ps_cons rfl (ps_cons rfl (ps_cons rfl (ps_cons (lsub_of ⟨⟨rfl, rfl, rfl⟩, ⟨rfl, rfl, rfl⟩, ⟨rfl, rfl, rfl, rfl, trivial⟩⟩) (ps_cons (by simp) (ps_cons (we_one _) ps_nil))))))))))))))))))))))))))) rfl hg
theorem spN4 (s : ByteArray) (b f a : Int) (d : Bool) (p : Nat) (k_ : Nat) : stepF P Z8 2 64 sp_b (spN_st s b f a d p) (.b true :: (.lit :: (.b false :: (.b false :: (.lit :: (.b false :: [])))))) 1000 (fun _ => some (spN_st s b f (IntKind.i64.wrap (a + 1)) d (p + (Utf8.decode s p).2))) k_ =
  some (.normal, k_, [p < s.size, rP [.int .i32 ((Utf8.decode s p).1 : Int)], (kd ((Utf8.decode s p).1 : Int) == 2) = false, (kd ((Utf8.decode s p).1 : Int) == 0) = false, (kd ((Utf8.decode s p).1 : Int) == 1) = false, (.int .i64 b : Value) = .int .i64 b, (.int .i64 f : Value) = .int .i64 f, (.ptr 17 0 : SV) = .ptr 17 0, (.yld 13 : SV) = .yld 13, (.ptr 7 0 : SV) = .ptr 7 0, (.ptr 9 0 : SV) = .ptr 9 0, (.ptr 8 0 : SV) = .ptr 8 0, (.slice none 0 0 : Value) = .slice none 0 0, (.int .i64 (IntKind.i64.wrap (a + 1)) : Value) = .int .i64 (IntKind.i64.wrap (a + 1)), (.bool d : Value) = .bool d, (.string s : Value) = .string s, (.ptr 1 0 : SV) = .ptr 1 0, (.ptr 3 0 : SV) = .ptr 3 0, s = s, p + (Utf8.decode s p).2 = p + (Utf8.decode s p).2, lsub sp_rec (⟨.ready, none, [(5, .ptr 3 0), (4, .v (.int .i64 0)), (3, .ptr 1 0), (2, .ptr 0 0)], 18, [9], sp_asg, sp_body⟩ : LoopS)]) := by kernel_rfl
theorem spN4_ok (s : ByteArray) (b f a : Int) (d : Bool) (p : Nat) (q0 : p < s.size) (q1 : (kd ((Utf8.decode s p).1 : Int) == 2) = false) (q2 : (kd ((Utf8.decode s p).1 : Int) == 0) = false) (q3 : (kd ((Utf8.decode s p).1 : Int) == 1) = false)  {good : Out → St → Prop} (hg : ∀ S1, Keeps S1 (spN_st s b f (IntKind.i64.wrap (a + 1)) d (p + (Utf8.decode s p).2)) → good .normal S1) : StepTo P Z8 2 64 sp_b (spN_st s b f a d p) good :=
  step_run (spN4 s b f a d p) (ps_cons q0 (ps_cons trivial (ps_cons q1 (ps_cons q2 (ps_cons q3 (ps_cons rfl (ps_cons rfl (ps_cons rfl (ps_cons rfl (ps_cons rfl (ps_cons rfl (ps_cons rfl (ps_cons rfl (ps_cons rfl (ps_cons rfl (ps_cons rfl (ps_cons rfl (ps_cons rfl (ps_cons rfl (ps_cons rfl (ps_cons (lsub_of ⟨⟨rfl, rfl, rfl⟩, ⟨rfl, rfl, rfl⟩, ⟨rfl, rfl, rfl, rfl, trivial⟩⟩) ps_nil))))))))))))))))))))) rfl hg
theorem spN5 (s : ByteArray) (b f a : Int) (d : Bool) (p : Nat) (k_ : Nat) : stepF P Z8 2 64 sp_b (spN_st s b f a d p) (.b true :: (.lit :: (.b false :: (.b false :: (.lit :: (.b true :: (.b false :: []))))))) 1000 (fun _ => some (spN_st s b f (IntKind.i64.wrap (a + 1)) d (p + (Utf8.decode s p).2))) k_ =
  some (.normal, k_, [p < s.size, rP [.int .i32 ((Utf8.decode s p).1 : Int)], (kd ((Utf8.decode s p).1 : Int) == 2) = false, (kd ((Utf8.decode s p).1 : Int) == 0) = false, (kd ((Utf8.decode s p).1 : Int) == 1) = true, (decide (b ≥ 0)) = false, (.int .i64 b : Value) = .int .i64 b, (.int .i64 f : Value) = .int .i64 f, (.ptr 17 0 : SV) = .ptr 17 0, (.yld 13 : SV) = .yld 13, (.ptr 7 0 : SV) = .ptr 7 0, (.ptr 9 0 : SV) = .ptr 9 0, (.ptr 8 0 : SV) = .ptr 8 0, (.slice none 0 0 : Value) = .slice none 0 0, (.int .i64 (IntKind.i64.wrap (a + 1)) : Value) = .int .i64 (IntKind.i64.wrap (a + 1)), (.bool d : Value) = .bool d, (.string s : Value) = .string s, (.ptr 1 0 : SV) = .ptr 1 0, (.ptr 3 0 : SV) = .ptr 3 0, s = s, p + (Utf8.decode s p).2 = p + (Utf8.decode s p).2, lsub sp_rec (⟨.ready, none, [(5, .ptr 3 0), (4, .v (.int .i64 0)), (3, .ptr 1 0), (2, .ptr 0 0)], 18, [9], sp_asg, sp_body⟩ : LoopS)]) := by kernel_rfl
theorem spN5_ok (s : ByteArray) (b f a : Int) (d : Bool) (p : Nat) (q0 : p < s.size) (q1 : (kd ((Utf8.decode s p).1 : Int) == 2) = false) (q2 : (kd ((Utf8.decode s p).1 : Int) == 0) = false) (q3 : (kd ((Utf8.decode s p).1 : Int) == 1) = true) (q4 : (decide (b ≥ 0)) = false)  {good : Out → St → Prop} (hg : ∀ S1, Keeps S1 (spN_st s b f (IntKind.i64.wrap (a + 1)) d (p + (Utf8.decode s p).2)) → good .normal S1) : StepTo P Z8 2 64 sp_b (spN_st s b f a d p) good :=
  step_run (spN5 s b f a d p) (ps_cons q0 (ps_cons trivial (ps_cons q1 (ps_cons q2 (ps_cons q3 (ps_cons q4 (ps_cons rfl (ps_cons rfl (ps_cons rfl (ps_cons rfl (ps_cons rfl (ps_cons rfl (ps_cons rfl (ps_cons rfl (ps_cons rfl (ps_cons rfl (ps_cons rfl (ps_cons rfl (ps_cons rfl (ps_cons rfl (ps_cons rfl (ps_cons (lsub_of ⟨⟨rfl, rfl, rfl⟩, ⟨rfl, rfl, rfl⟩, ⟨rfl, rfl, rfl, rfl, trivial⟩⟩) ps_nil)))))))))))))))))))))) rfl hg
theorem spN7 (s : ByteArray) (b f a : Int) (d : Bool) (p : Nat) (k_ : Nat) : stepF P Z8 2 64 sp_b (spN_st s b f a d p) (.b true :: (.lit :: (.b false :: (.b true :: (.b false :: (.b false :: [])))))) 1000 (fun _ => some (spN_st s b f (IntKind.i64.wrap (a + 1)) d (p + (Utf8.decode s p).2))) k_ =
  some (.normal, k_, [p < s.size, rP [.int .i32 ((Utf8.decode s p).1 : Int)], (kd ((Utf8.decode s p).1 : Int) == 2) = false, (kd ((Utf8.decode s p).1 : Int) == 0) = true, (decide (b < 0)) = false, (kd ((Utf8.decode s p).1 : Int) == 1) = false, (.int .i64 b : Value) = .int .i64 b, (.int .i64 f : Value) = .int .i64 f, (.ptr 17 0 : SV) = .ptr 17 0, (.yld 13 : SV) = .yld 13, (.ptr 7 0 : SV) = .ptr 7 0, (.ptr 9 0 : SV) = .ptr 9 0, (.ptr 8 0 : SV) = .ptr 8 0, (.slice none 0 0 : Value) = .slice none 0 0, (.int .i64 (IntKind.i64.wrap (a + 1)) : Value) = .int .i64 (IntKind.i64.wrap (a + 1)), (.bool d : Value) = .bool d, (.string s : Value) = .string s, (.ptr 1 0 : SV) = .ptr 1 0, (.ptr 3 0 : SV) = .ptr 3 0, s = s, p + (Utf8.decode s p).2 = p + (Utf8.decode s p).2, lsub sp_rec (⟨.ready, none, [(5, .ptr 3 0), (4, .v (.int .i64 0)), (3, .ptr 1 0), (2, .ptr 0 0)], 18, [9], sp_asg, sp_body⟩ : LoopS)]) := by kernel_rfl
theorem spN7_ok (s : ByteArray) (b f a : Int) (d : Bool) (p : Nat) (q0 : p < s.size) (q1 : (kd ((Utf8.decode s p).1 : Int) == 2) = false) (q2 : (kd ((Utf8.decode s p).1 : Int) == 0) = true) (q3 : (decide (b < 0)) = false) (q4 : (kd ((Utf8.decode s p).1 : Int) == 1) = false)  {good : Out → St → Prop} (hg : ∀ S1, Keeps S1 (spN_st s b f (IntKind.i64.wrap (a + 1)) d (p + (Utf8.decode s p).2)) → good .normal S1) : StepTo P Z8 2 64 sp_b (spN_st s b f a d p) good :=
  step_run (spN7 s b f a d p) (ps_cons q0 (ps_cons trivial (ps_cons q1 (ps_cons q2 (ps_cons q3 (ps_cons q4 (ps_cons rfl (ps_cons rfl (ps_cons rfl (ps_cons rfl (ps_cons rfl (ps_cons rfl (ps_cons rfl (ps_cons rfl (ps_cons rfl (ps_cons rfl (ps_cons rfl (ps_cons rfl (ps_cons rfl (ps_cons rfl (ps_cons rfl (ps_cons (lsub_of ⟨⟨rfl, rfl, rfl⟩, ⟨rfl, rfl, rfl⟩, ⟨rfl, rfl, rfl, rfl, trivial⟩⟩) ps_nil)))))))))))))))))))))) rfl hg
theorem spR0 (L : List (Int × ByteArray)) (s : ByteArray) (b f a : Int) (d : Bool) (p : Nat) (k_ : Nat) : stepF P Z8 2 64 sp_b (spR_st L s b f a d p) (.b true :: (.lit :: (.b true :: []))) 1000 (fun _ => some (spR_st L s b f a true (p + (Utf8.decode s p).2))) k_ =
  some (.ret, k_, [p < s.size, rP [.int .i32 ((Utf8.decode s p).1 : Int)], (kd ((Utf8.decode s p).1 : Int) == 2) = true, (.int .i64 b : Value) = .int .i64 b, (.int .i64 f : Value) = .int .i64 f, (.ptr 17 0 : SV) = .ptr 17 0, (.yld 13 : SV) = .yld 13, (.ptr 7 0 : SV) = .ptr 7 0, (.ptr 9 0 : SV) = .ptr 9 0, (.ptr 8 0 : SV) = .ptr 8 0, (.row 900 : SV) = .row 900, (.int .i64 a : Value) = .int .i64 a, (.bool true : Value) = .bool true, (.string s : Value) = .string s, (.ptr 1 0 : SV) = .ptr 1 0, (.ptr 3 0 : SV) = .ptr 3 0, s = s, p + (Utf8.decode s p).2 = p + (Utf8.decode s p).2, lsub sp_rec (⟨.ready, none, [(5, .ptr 3 0), (4, .v (.int .i64 0)), (3, .ptr 1 0), (2, .ptr 0 0)], 18, [9], sp_asg, sp_body⟩ : LoopS), L.length = L.length, ∀ j, j < L.length → we L j = we L j]) := by kernel_rfl
theorem spR0_ok (L : List (Int × ByteArray)) (s : ByteArray) (b f a : Int) (d : Bool) (p : Nat) (q0 : p < s.size) (q1 : (kd ((Utf8.decode s p).1 : Int) == 2) = true)  {good : Out → St → Prop} (hg : ∀ S1, Keeps S1 (spR_st L s b f a true (p + (Utf8.decode s p).2)) → good .ret S1) : StepTo P Z8 2 64 sp_b (spR_st L s b f a d p) good :=
  step_run (spR0 L s b f a d p) (ps_cons q0 (ps_cons trivial (ps_cons q1 (ps_cons rfl (ps_cons rfl (ps_cons rfl (ps_cons rfl (ps_cons rfl (ps_cons rfl (ps_cons rfl (ps_cons rfl (ps_cons rfl (ps_cons rfl (ps_cons rfl (ps_cons rfl (ps_cons rfl (ps_cons rfl (ps_cons rfl (ps_cons (lsub_of ⟨⟨rfl, rfl, rfl⟩, ⟨rfl, rfl, rfl⟩, ⟨rfl, rfl, rfl, rfl, trivial⟩⟩) (ps_cons rfl (ps_cons (fun _ _ => rfl) ps_nil))))))))))))))))))))) rfl hg
theorem spR1 (L : List (Int × ByteArray)) (s : ByteArray) (b f a : Int) (d : Bool) (p : Nat) (k_ : Nat) : stepF P Z8 2 64 sp_b (spR_st L s b f a d p) (.b false :: []) 1000 (fun _ => some (spR_st L s b f a d p)) k_ =
  some ((.exit 0), k_, [¬ p < s.size, (.int .i64 b : Value) = .int .i64 b, (.int .i64 f : Value) = .int .i64 f, (.ptr 17 0 : SV) = .ptr 17 0, (.yld 13 : SV) = .yld 13, (.ptr 7 0 : SV) = .ptr 7 0, (.ptr 9 0 : SV) = .ptr 9 0, (.ptr 8 0 : SV) = .ptr 8 0, (.row 900 : SV) = .row 900, (.int .i64 a : Value) = .int .i64 a, (.bool d : Value) = .bool d, (.string s : Value) = .string s, (.ptr 1 0 : SV) = .ptr 1 0, (.ptr 3 0 : SV) = .ptr 3 0, s = s, p = p, lsub sp_rec (⟨.ready, none, [(5, .ptr 3 0), (4, .v (.int .i64 0)), (3, .ptr 1 0), (2, .ptr 0 0)], 18, [9], sp_asg, sp_body⟩ : LoopS), L.length = L.length, ∀ j, j < L.length → we L j = we L j]) := by kernel_rfl
theorem spR1_ok (L : List (Int × ByteArray)) (s : ByteArray) (b f a : Int) (d : Bool) (p : Nat) (q0 : ¬ p < s.size)  {good : Out → St → Prop} (hg : ∀ S1, Keeps S1 (spR_st L s b f a d p) → good (.exit 0) S1) : StepTo P Z8 2 64 sp_b (spR_st L s b f a d p) good :=
  step_run (spR1 L s b f a d p) (ps_cons q0 (ps_cons rfl (ps_cons rfl (ps_cons rfl (ps_cons rfl (ps_cons rfl (ps_cons rfl (ps_cons rfl (ps_cons rfl (ps_cons rfl (ps_cons rfl (ps_cons rfl (ps_cons rfl (ps_cons rfl (ps_cons rfl (ps_cons rfl (ps_cons (lsub_of ⟨⟨rfl, rfl, rfl⟩, ⟨rfl, rfl, rfl⟩, ⟨rfl, rfl, rfl, rfl, trivial⟩⟩) (ps_cons rfl (ps_cons (fun _ _ => rfl) ps_nil))))))))))))))))))) rfl hg
theorem spR2 (L : List (Int × ByteArray)) (s : ByteArray) (b f a : Int) (d : Bool) (p : Nat) (k_ : Nat) : stepF P Z8 2 64 sp_b (spR_st L s b f a d p) (.b true :: (.lit :: (.b false :: (.b true :: (.b true :: []))))) 1000 (fun _ => some (spR_st L s a (p : Int) (IntKind.i64.wrap (a + 1)) d (p + (Utf8.decode s p).2))) k_ =
  some (.normal, k_, [p < s.size, rP [.int .i32 ((Utf8.decode s p).1 : Int)], (kd ((Utf8.decode s p).1 : Int) == 2) = false, (kd ((Utf8.decode s p).1 : Int) == 0) = true, (decide (b < 0)) = true, (.int .i64 a : Value) = .int .i64 a, (.int .i64 (p : Int) : Value) = .int .i64 (p : Int), (.ptr 17 0 : SV) = .ptr 17 0, (.yld 13 : SV) = .yld 13, (.ptr 7 0 : SV) = .ptr 7 0, (.ptr 9 0 : SV) = .ptr 9 0, (.ptr 8 0 : SV) = .ptr 8 0, (.row 900 : SV) = .row 900, (.int .i64 (IntKind.i64.wrap (a + 1)) : Value) = .int .i64 (IntKind.i64.wrap (a + 1)), (.bool d : Value) = .bool d, (.string s : Value) = .string s, (.ptr 1 0 : SV) = .ptr 1 0, (.ptr 3 0 : SV) = .ptr 3 0, s = s, p + (Utf8.decode s p).2 = p + (Utf8.decode s p).2, lsub sp_rec (⟨.ready, none, [(5, .ptr 3 0), (4, .v (.int .i64 0)), (3, .ptr 1 0), (2, .ptr 0 0)], 18, [9], sp_asg, sp_body⟩ : LoopS), L.length = L.length, ∀ j, j < L.length → we L j = we L j]) := by kernel_rfl
theorem spR2_ok (L : List (Int × ByteArray)) (s : ByteArray) (b f a : Int) (d : Bool) (p : Nat) (q0 : p < s.size) (q1 : (kd ((Utf8.decode s p).1 : Int) == 2) = false) (q2 : (kd ((Utf8.decode s p).1 : Int) == 0) = true) (q3 : (decide (b < 0)) = true)  {good : Out → St → Prop} (hg : ∀ S1, Keeps S1 (spR_st L s a (p : Int) (IntKind.i64.wrap (a + 1)) d (p + (Utf8.decode s p).2)) → good .normal S1) : StepTo P Z8 2 64 sp_b (spR_st L s b f a d p) good :=
  step_run (spR2 L s b f a d p) (ps_cons q0 (ps_cons trivial (ps_cons q1 (ps_cons q2 (ps_cons q3 (ps_cons rfl (ps_cons rfl (ps_cons rfl (ps_cons rfl (ps_cons rfl (ps_cons rfl (ps_cons rfl (ps_cons rfl (ps_cons rfl (ps_cons rfl (ps_cons rfl (ps_cons rfl (ps_cons rfl (ps_cons rfl (ps_cons rfl (ps_cons (lsub_of ⟨⟨rfl, rfl, rfl⟩, ⟨rfl, rfl, rfl⟩, ⟨rfl, rfl, rfl, rfl, trivial⟩⟩) (ps_cons rfl (ps_cons (fun _ _ => rfl) ps_nil))))))))))))))))))))))) rfl hg
theorem spR3 (L : List (Int × ByteArray)) (s : ByteArray) (b f a : Int) (d : Bool) (p : Nat) (k_ : Nat) : stepF P Z8 2 64 sp_b (spR_st L s b f a d p) (.b true :: (.lit :: (.b false :: (.b false :: (.lit :: (.b true :: (.b true :: []))))))) 1000 (fun _ => some (spR_st (L ++ [(b, s.extract (f : Int).toNat ((p : Int) : Int).toNat)]) s (-1) f (IntKind.i64.wrap (a + 1)) d (p + (Utf8.decode s p).2))) k_ =
  some (.normal, k_, [p < s.size, rP [.int .i32 ((Utf8.decode s p).1 : Int)], (kd ((Utf8.decode s p).1 : Int) == 2) = false, (kd ((Utf8.decode s p).1 : Int) == 0) = false, (kd ((Utf8.decode s p).1 : Int) == 1) = true, (decide (b ≥ 0)) = true, 0 ≤ (p : Int) ∧ (p : Int) ≤ ((s.size : Nat) : Int), 0 ≤ f ∧ f ≤ ((((p : Int) : Int).toNat : Nat) : Int), L.length < 1000000, (.int .i64 (-1) : Value) = .int .i64 (-1), (.int .i64 f : Value) = .int .i64 f, (.ptr 17 0 : SV) = .ptr 17 0, (.yld 13 : SV) = .yld 13, (.ptr 7 0 : SV) = .ptr 7 0, (.ptr 9 0 : SV) = .ptr 9 0, (.ptr 8 0 : SV) = .ptr 8 0, (.row 1040 : SV) = .row 1040, (.int .i64 (IntKind.i64.wrap (a + 1)) : Value) = .int .i64 (IntKind.i64.wrap (a + 1)), (.bool d : Value) = .bool d, (.string s : Value) = .string s, (.ptr 1 0 : SV) = .ptr 1 0, (.ptr 3 0 : SV) = .ptr 3 0, s = s, p + (Utf8.decode s p).2 = p + (Utf8.decode s p).2, lsub sp_rec (⟨.ready, none, [(5, .ptr 3 0), (4, .v (.int .i64 0)), (3, .ptr 1 0), (2, .ptr 0 0)], 18, [9], sp_asg, sp_body⟩ : LoopS), L.length + 1 = (L ++ [(b, s.extract (f : Int).toNat ((p : Int) : Int).toNat)]).length, ∀ j, j < (L ++ [(b, s.extract (f : Int).toNat ((p : Int) : Int).toNat)]).length → (bif Nat.beq j L.length then (.agg #[.int .i64 b, .string (s.extract (f : Int).toNat ((p : Int) : Int).toNat)] : Value) else we L j) = we (L ++ [(b, s.extract (f : Int).toNat ((p : Int) : Int).toNat)]) j]) := by kernel_rfl
theorem spR3_ok (L : List (Int × ByteArray)) (s : ByteArray) (b f a : Int) (d : Bool) (p : Nat) (q0 : p < s.size) (q1 : (kd ((Utf8.decode s p).1 : Int) == 2) = false) (q2 : (kd ((Utf8.decode s p).1 : Int) == 0) = false) (q3 : (kd ((Utf8.decode s p).1 : Int) == 1) = true) (q4 : (decide (b ≥ 0)) = true) (x0 : 0 ≤ (p : Int) ∧ (p : Int) ≤ ((s.size : Nat) : Int)) (x1 : 0 ≤ f ∧ f ≤ ((((p : Int) : Int).toNat : Nat) : Int)) (x2 : L.length < 1000000) {good : Out → St → Prop} (hg : ∀ S1, Keeps S1 (spR_st (L ++ [(b, s.extract (f : Int).toNat ((p : Int) : Int).toNat)]) s (-1) f (IntKind.i64.wrap (a + 1)) d (p + (Utf8.decode s p).2)) → good .normal S1) : StepTo P Z8 2 64 sp_b (spR_st L s b f a d p) good :=
  step_run (spR3 L s b f a d p) (ps_cons q0 (ps_cons trivial (ps_cons q1 (ps_cons q2 (ps_cons q3 (ps_cons q4 (ps_cons x0 (ps_cons x1 (ps_cons x2 (ps_cons rfl (ps_cons rfl (ps_cons rfl (ps_cons rfl (ps_cons rfl (ps_cons rfl (ps_cons rfl (ps_cons rfl (ps_cons rfl (ps_cons rfl (ps_cons rfl (ps_cons rfl (ps_cons rfl (ps_cons rfl (ps_cons rfl (ps_cons (lsub_of ⟨⟨rfl, rfl, rfl⟩, ⟨rfl, rfl, rfl⟩, ⟨rfl, rfl, rfl, rfl, trivial⟩⟩) (ps_cons (by simp) (ps_cons (we_app L _) ps_nil))))))))))))))))))))))))))) rfl hg
theorem spR4 (L : List (Int × ByteArray)) (s : ByteArray) (b f a : Int) (d : Bool) (p : Nat) (k_ : Nat) : stepF P Z8 2 64 sp_b (spR_st L s b f a d p) (.b true :: (.lit :: (.b false :: (.b false :: (.lit :: (.b false :: [])))))) 1000 (fun _ => some (spR_st L s b f (IntKind.i64.wrap (a + 1)) d (p + (Utf8.decode s p).2))) k_ =
  some (.normal, k_, [p < s.size, rP [.int .i32 ((Utf8.decode s p).1 : Int)], (kd ((Utf8.decode s p).1 : Int) == 2) = false, (kd ((Utf8.decode s p).1 : Int) == 0) = false, (kd ((Utf8.decode s p).1 : Int) == 1) = false, (.int .i64 b : Value) = .int .i64 b, (.int .i64 f : Value) = .int .i64 f, (.ptr 17 0 : SV) = .ptr 17 0, (.yld 13 : SV) = .yld 13, (.ptr 7 0 : SV) = .ptr 7 0, (.ptr 9 0 : SV) = .ptr 9 0, (.ptr 8 0 : SV) = .ptr 8 0, (.row 900 : SV) = .row 900, (.int .i64 (IntKind.i64.wrap (a + 1)) : Value) = .int .i64 (IntKind.i64.wrap (a + 1)), (.bool d : Value) = .bool d, (.string s : Value) = .string s, (.ptr 1 0 : SV) = .ptr 1 0, (.ptr 3 0 : SV) = .ptr 3 0, s = s, p + (Utf8.decode s p).2 = p + (Utf8.decode s p).2, lsub sp_rec (⟨.ready, none, [(5, .ptr 3 0), (4, .v (.int .i64 0)), (3, .ptr 1 0), (2, .ptr 0 0)], 18, [9], sp_asg, sp_body⟩ : LoopS), L.length = L.length, ∀ j, j < L.length → we L j = we L j]) := by kernel_rfl
theorem spR4_ok (L : List (Int × ByteArray)) (s : ByteArray) (b f a : Int) (d : Bool) (p : Nat) (q0 : p < s.size) (q1 : (kd ((Utf8.decode s p).1 : Int) == 2) = false) (q2 : (kd ((Utf8.decode s p).1 : Int) == 0) = false) (q3 : (kd ((Utf8.decode s p).1 : Int) == 1) = false)  {good : Out → St → Prop} (hg : ∀ S1, Keeps S1 (spR_st L s b f (IntKind.i64.wrap (a + 1)) d (p + (Utf8.decode s p).2)) → good .normal S1) : StepTo P Z8 2 64 sp_b (spR_st L s b f a d p) good :=
  step_run (spR4 L s b f a d p) (ps_cons q0 (ps_cons trivial (ps_cons q1 (ps_cons q2 (ps_cons q3 (ps_cons rfl (ps_cons rfl (ps_cons rfl (ps_cons rfl (ps_cons rfl (ps_cons rfl (ps_cons rfl (ps_cons rfl (ps_cons rfl (ps_cons rfl (ps_cons rfl (ps_cons rfl (ps_cons rfl (ps_cons rfl (ps_cons rfl (ps_cons (lsub_of ⟨⟨rfl, rfl, rfl⟩, ⟨rfl, rfl, rfl⟩, ⟨rfl, rfl, rfl, rfl, trivial⟩⟩) (ps_cons rfl (ps_cons (fun _ _ => rfl) ps_nil))))))))))))))))))))))) rfl hg
theorem spR5 (L : List (Int × ByteArray)) (s : ByteArray) (b f a : Int) (d : Bool) (p : Nat) (k_ : Nat) : stepF P Z8 2 64 sp_b (spR_st L s b f a d p) (.b true :: (.lit :: (.b false :: (.b false :: (.lit :: (.b true :: (.b false :: []))))))) 1000 (fun _ => some (spR_st L s b f (IntKind.i64.wrap (a + 1)) d (p + (Utf8.decode s p).2))) k_ =
  some (.normal, k_, [p < s.size, rP [.int .i32 ((Utf8.decode s p).1 : Int)], (kd ((Utf8.decode s p).1 : Int) == 2) = false, (kd ((Utf8.decode s p).1 : Int) == 0) = false, (kd ((Utf8.decode s p).1 : Int) == 1) = true, (decide (b ≥ 0)) = false, (.int .i64 b : Value) = .int .i64 b, (.int .i64 f : Value) = .int .i64 f, (.ptr 17 0 : SV) = .ptr 17 0, (.yld 13 : SV) = .yld 13, (.ptr 7 0 : SV) = .ptr 7 0, (.ptr 9 0 : SV) = .ptr 9 0, (.ptr 8 0 : SV) = .ptr 8 0, (.row 900 : SV) = .row 900, (.int .i64 (IntKind.i64.wrap (a + 1)) : Value) = .int .i64 (IntKind.i64.wrap (a + 1)), (.bool d : Value) = .bool d, (.string s : Value) = .string s, (.ptr 1 0 : SV) = .ptr 1 0, (.ptr 3 0 : SV) = .ptr 3 0, s = s, p + (Utf8.decode s p).2 = p + (Utf8.decode s p).2, lsub sp_rec (⟨.ready, none, [(5, .ptr 3 0), (4, .v (.int .i64 0)), (3, .ptr 1 0), (2, .ptr 0 0)], 18, [9], sp_asg, sp_body⟩ : LoopS), L.length = L.length, ∀ j, j < L.length → we L j = we L j]) := by kernel_rfl
theorem spR5_ok (L : List (Int × ByteArray)) (s : ByteArray) (b f a : Int) (d : Bool) (p : Nat) (q0 : p < s.size) (q1 : (kd ((Utf8.decode s p).1 : Int) == 2) = false) (q2 : (kd ((Utf8.decode s p).1 : Int) == 0) = false) (q3 : (kd ((Utf8.decode s p).1 : Int) == 1) = true) (q4 : (decide (b ≥ 0)) = false)  {good : Out → St → Prop} (hg : ∀ S1, Keeps S1 (spR_st L s b f (IntKind.i64.wrap (a + 1)) d (p + (Utf8.decode s p).2)) → good .normal S1) : StepTo P Z8 2 64 sp_b (spR_st L s b f a d p) good :=
  step_run (spR5 L s b f a d p) (ps_cons q0 (ps_cons trivial (ps_cons q1 (ps_cons q2 (ps_cons q3 (ps_cons q4 (ps_cons rfl (ps_cons rfl (ps_cons rfl (ps_cons rfl (ps_cons rfl (ps_cons rfl (ps_cons rfl (ps_cons rfl (ps_cons rfl (ps_cons rfl (ps_cons rfl (ps_cons rfl (ps_cons rfl (ps_cons rfl (ps_cons rfl (ps_cons (lsub_of ⟨⟨rfl, rfl, rfl⟩, ⟨rfl, rfl, rfl⟩, ⟨rfl, rfl, rfl, rfl, trivial⟩⟩) (ps_cons rfl (ps_cons (fun _ _ => rfl) ps_nil)))))))))))))))))))))))) rfl hg
theorem spR7 (L : List (Int × ByteArray)) (s : ByteArray) (b f a : Int) (d : Bool) (p : Nat) (k_ : Nat) : stepF P Z8 2 64 sp_b (spR_st L s b f a d p) (.b true :: (.lit :: (.b false :: (.b true :: (.b false :: (.b false :: [])))))) 1000 (fun _ => some (spR_st L s b f (IntKind.i64.wrap (a + 1)) d (p + (Utf8.decode s p).2))) k_ =
  some (.normal, k_, [p < s.size, rP [.int .i32 ((Utf8.decode s p).1 : Int)], (kd ((Utf8.decode s p).1 : Int) == 2) = false, (kd ((Utf8.decode s p).1 : Int) == 0) = true, (decide (b < 0)) = false, (kd ((Utf8.decode s p).1 : Int) == 1) = false, (.int .i64 b : Value) = .int .i64 b, (.int .i64 f : Value) = .int .i64 f, (.ptr 17 0 : SV) = .ptr 17 0, (.yld 13 : SV) = .yld 13, (.ptr 7 0 : SV) = .ptr 7 0, (.ptr 9 0 : SV) = .ptr 9 0, (.ptr 8 0 : SV) = .ptr 8 0, (.row 900 : SV) = .row 900, (.int .i64 (IntKind.i64.wrap (a + 1)) : Value) = .int .i64 (IntKind.i64.wrap (a + 1)), (.bool d : Value) = .bool d, (.string s : Value) = .string s, (.ptr 1 0 : SV) = .ptr 1 0, (.ptr 3 0 : SV) = .ptr 3 0, s = s, p + (Utf8.decode s p).2 = p + (Utf8.decode s p).2, lsub sp_rec (⟨.ready, none, [(5, .ptr 3 0), (4, .v (.int .i64 0)), (3, .ptr 1 0), (2, .ptr 0 0)], 18, [9], sp_asg, sp_body⟩ : LoopS), L.length = L.length, ∀ j, j < L.length → we L j = we L j]) := by kernel_rfl
theorem spR7_ok (L : List (Int × ByteArray)) (s : ByteArray) (b f a : Int) (d : Bool) (p : Nat) (q0 : p < s.size) (q1 : (kd ((Utf8.decode s p).1 : Int) == 2) = false) (q2 : (kd ((Utf8.decode s p).1 : Int) == 0) = true) (q3 : (decide (b < 0)) = false) (q4 : (kd ((Utf8.decode s p).1 : Int) == 1) = false)  {good : Out → St → Prop} (hg : ∀ S1, Keeps S1 (spR_st L s b f (IntKind.i64.wrap (a + 1)) d (p + (Utf8.decode s p).2)) → good .normal S1) : StepTo P Z8 2 64 sp_b (spR_st L s b f a d p) good :=
  step_run (spR7 L s b f a d p) (ps_cons q0 (ps_cons trivial (ps_cons q1 (ps_cons q2 (ps_cons q3 (ps_cons q4 (ps_cons rfl (ps_cons rfl (ps_cons rfl (ps_cons rfl (ps_cons rfl (ps_cons rfl (ps_cons rfl (ps_cons rfl (ps_cons rfl (ps_cons rfl (ps_cons rfl (ps_cons rfl (ps_cons rfl (ps_cons rfl (ps_cons rfl (ps_cons (lsub_of ⟨⟨rfl, rfl, rfl⟩, ⟨rfl, rfl, rfl⟩, ⟨rfl, rfl, rfl, rfl, trivial⟩⟩) (ps_cons rfl (ps_cons (fun _ _ => rfl) ps_nil)))))))))))))))))))))))) rfl hg
noncomputable def spG (s : ByteArray) (k : Nat) : St :=
  match (sst s k).2.2 with
  | [] => spN_st s (sst s k).1 (((sst s k).2.1 : Nat) : Int) (k : Int) false (ps s k)
  | w :: l => spR_st (w :: l) s (sst s k).1 (((sst s k).2.1 : Nat) : Int) (k : Int) false (ps s k)
theorem spG_N {s : ByteArray} {k : Nat} {b : Int} {f : Nat} (h : sst s k = (b, f, [])) : spG s k = spN_st s b ((f : Nat) : Int) (k : Int) false (ps s k) := by
  unfold spG
  rw [h]
theorem spG_R {s : ByteArray} {k : Nat} {b : Int} {f : Nat} {L : List (Int × ByteArray)} (h : sst s k = (b, f, L)) (hL : L ≠ []) : spG s k = spR_st L s b ((f : Nat) : Int) (k : Int) false (ps s k) := by
  unfold spG
  rw [h]
  cases L with
  | nil => exact absurd rfl hL
  | cons w l => rfl
section
variable {s : ByteArray} {k : Nat} {b : Int} {f : Nat} {L : List (Int × ByteArray)}
theorem sst_b' (h : sst s k = (b, f, L)) (q0 : (kd (rn s k) == 0) = true) (qb : decide (b < 0) = true) : sst s (k + 1) = ((k : Int), ps s k, L) := by
  rw [sst_b q0 (by rw [h]; exact qb), h]
theorem sst_e' (h : sst s k = (b, f, L)) (q1 : (kd (rn s k) == 1) = true) (qb : decide (b ≥ 0) = true) : sst s (k + 1) = (-1, f, L ++ [(b, s.extract f (ps s k))]) := by
  rw [sst_e q1 (by rw [h]; exact qb), h]
theorem sst_n' (h : sst s k = (b, f, L)) (h0 : (kd (rn s k) == 0 && decide (b < 0)) = false) (h1 : (kd (rn s k) == 1 && decide (b ≥ 0)) = false) : sst s (k + 1) = (b, f, L) := by
  rw [sst_n (by rw [h]; exact h0) (by rw [h]; exact h1), h]
end
theorem sp_step {s : ByteArray} (hs : s.size ≤ 1048576) (k : Nat) (hk : k < cn s) (h2 : (kd (rn s k) == 2) = false) {good : Out → St → Prop} (hg : ∀ S1, Keeps S1 (spG s (k + 1)) → good .normal S1) :
    StepTo P Z8 2 64 sp_b (spG s k) good := by
  have hlt := cn_lt hk
  have hcn := cn_le s
  have e1 : IntKind.i64.wrap ((k : Int) + 1) = ((k + 1 : Nat) : Int) := by rw [wr (by omega) (by omega)]; rfl
  rcases h : sst s k with ⟨b, f, L⟩
  have hr := sst_rng s k
  have hct := sst_cnt s k
  rw [h] at hr hct
  obtain ⟨r1, r2, r3, r4⟩ := hr
  dsimp only at r1 r2 r3 r4 hct
  have x0 : 0 ≤ ((ps s k : Nat) : Int) ∧ ((ps s k : Nat) : Int) ≤ ((s.size : Nat) : Int) := by omega
  have x1 : 0 ≤ ((f : Nat) : Int) ∧ ((f : Nat) : Int) ≤ (((((ps s k : Nat) : Int) : Int).toNat : Nat) : Int) := by
    have : (((ps s k : Nat) : Int) : Int).toNat = ps s k := rfl
    rw [this]
    omega
  by_cases hL : L = []
  · subst hL
    rw [spG_N h]
    cases q0 : (kd (rn s k) == 0) with
    | true =>
      have q1 : (kd (rn s k) == 1) = false := by rw [eq_of_beq q0]; rfl
      cases qb : decide (b < 0) with
      | true =>
        refine spN2_ok s _ _ _ _ _ hlt h2 q0 qb fun S1 hk1 => hg S1 ?_
        rw [e1] at hk1
        rw [spG_N (sst_b' h q0 qb)]
        exact hk1
      | false =>
        refine spN7_ok s _ _ _ _ _ hlt h2 q0 qb q1 fun S1 hk1 => hg S1 ?_
        rw [e1] at hk1
        rw [spG_N (sst_n' h (by rw [q0, qb]; rfl) (by rw [q1]; rfl))]
        exact hk1
    | false =>
      cases q1 : (kd (rn s k) == 1) with
      | true =>
        cases qb : decide (b ≥ 0) with
        | true =>
          refine spN3_ok s _ _ _ _ _ hlt h2 q0 q1 qb x0 x1 fun S1 hk1 => hg S1 ?_
          rw [e1] at hk1
          rw [spG_R (sst_e' h q1 qb) (by simp)]
          exact hk1
        | false =>
          refine spN5_ok s _ _ _ _ _ hlt h2 q0 q1 qb fun S1 hk1 => hg S1 ?_
          rw [e1] at hk1
          rw [spG_N (sst_n' h (by rw [q0]; rfl) (by rw [qb]; simp))]
          exact hk1
      | false =>
        refine spN4_ok s _ _ _ _ _ hlt h2 q0 q1 fun S1 hk1 => hg S1 ?_
        rw [e1] at hk1
        rw [spG_N (sst_n' h (by rw [q0]; rfl) (by rw [q1]; rfl))]
        exact hk1
  · rw [spG_R h hL]
    cases q0 : (kd (rn s k) == 0) with
    | true =>
      have q1 : (kd (rn s k) == 1) = false := by rw [eq_of_beq q0]; rfl
      cases qb : decide (b < 0) with
      | true =>
        refine spR2_ok L s _ _ _ _ _ hlt h2 q0 qb fun S1 hk1 => hg S1 ?_
        rw [e1] at hk1
        rw [spG_R (sst_b' h q0 qb) hL]
        exact hk1
      | false =>
        refine spR7_ok L s _ _ _ _ _ hlt h2 q0 qb q1 fun S1 hk1 => hg S1 ?_
        rw [e1] at hk1
        rw [spG_R (sst_n' h (by rw [q0, qb]; rfl) (by rw [q1]; rfl)) hL]
        exact hk1
    | false =>
      cases q1 : (kd (rn s k) == 1) with
      | true =>
        cases qb : decide (b ≥ 0) with
        | true =>
          refine spR3_ok L s _ _ _ _ _ hlt h2 q0 q1 qb x0 x1 (by omega) fun S1 hk1 => hg S1 ?_
          rw [e1] at hk1
          rw [spG_R (sst_e' h q1 qb) (by simp)]
          exact hk1
        | false =>
          refine spR5_ok L s _ _ _ _ _ hlt h2 q0 q1 qb fun S1 hk1 => hg S1 ?_
          rw [e1] at hk1
          rw [spG_R (sst_n' h (by rw [q0]; rfl) (by rw [qb]; simp)) hL]
          exact hk1
      | false =>
        refine spR4_ok L s _ _ _ _ _ hlt h2 q0 q1 fun S1 hk1 => hg S1 ?_
        rw [e1] at hk1
        rw [spG_R (sst_n' h (by rw [q0]; rfl) (by rw [q1]; rfl)) hL]
        exact hk1
theorem spG_us (s : ByteArray) (k : Nat) : (spG s k).us = [900, 17, 13, 9, 8, 7, 3, 1, 0] := by
  unfold spG
  split <;> rfl
theorem spG_wf (s : ByteArray) (k : Nat) : wfSt [900, 17, 13, 9, 8, 7, 3, 1, 0] (spG s k) = true := by
  unfold spG
  split <;> kernel_rfl
theorem spG_V (s : ByteArray) (k r : Nat) (h : memN r (nmR (spG s k).rs) = true) : memN r [900] = true := by
  unfold spG at h
  split at h
  · cases h
  · exact h
noncomputable def spNe (s : ByteArray) (hs : s.size ≤ 1048576) (hg : ∀ j, j < cn s → (kd (rn s j) == 2) = false) (b : Int) (f : Nat) (h : sst s (cn s) = (b, f, [])) : CodeC P :=
  loopV mo Z8 (by rfl) 2 64 sp_b [900, 17, 13, 9, 8, 7, 3, 1, 0] (spG s) (fun k => k ≤ cn s) (fun k => cn s - k) (.exit 0) (spN_st s b ((f : Nat) : Int) ((cn s : Nat) : Int) false (ps s (cn s))) (by simp) (spG_us s) rfl (spG_wf s) (by kernel_rfl) [900] (spG_V s) (fun r hr => by cases hr)
    (fun k hk => by
      by_cases hlt : k < cn s
      · exact sp_step hs k hlt (hg k hlt) fun S1 hk1 => .inl ⟨rfl, k + 1, hlt, by omega, hk1⟩
      · have e : k = cn s := by omega
        subst e
        rw [spG_N h]
        exact spN1_ok s _ _ _ _ _ (by have := cn_end s; omega) fun S1 hk1 => .inr ⟨rfl, hk1⟩) 0 (Nat.zero_le _)
noncomputable def spRe (s : ByteArray) (hs : s.size ≤ 1048576) (hg : ∀ j, j < cn s → (kd (rn s j) == 2) = false) (b : Int) (f : Nat) (L : List (Int × ByteArray)) (h : sst s (cn s) = (b, f, L)) (hL : L ≠ []) : CodeC P :=
  loopV mo Z8 (by rfl) 2 64 sp_b [900, 17, 13, 9, 8, 7, 3, 1, 0] (spG s) (fun k => k ≤ cn s) (fun k => cn s - k) (.exit 0) (spR_st L s b ((f : Nat) : Int) ((cn s : Nat) : Int) false (ps s (cn s))) (by simp) (spG_us s) rfl (spG_wf s) (by kernel_rfl) [900] (spG_V s) (fun r hr => hr)
    (fun k hk => by
      by_cases hlt : k < cn s
      · exact sp_step hs k hlt (hg k hlt) fun S1 hk1 => .inl ⟨rfl, k + 1, hlt, by omega, hk1⟩
      · have e : k = cn s := by omega
        subst e
        rw [spG_R h hL]
        exact spR1_ok L s _ _ _ _ _ (by have := cn_end s; omega) fun S1 hk1 => .inr ⟨rfl, hk1⟩) 0 (Nat.zero_le _)
noncomputable def spNb (s : ByteArray) (hs : s.size ≤ 1048576) (n : Nat) (hn : n < cn s) (hg : ∀ j, j < n → (kd (rn s j) == 2) = false) (hb : (kd (rn s n) == 2) = true) (b : Int) (f : Nat) (h : sst s n = (b, f, [])) : CodeC P :=
  loopV mo Z8 (by rfl) 2 64 sp_b [900, 17, 13, 9, 8, 7, 3, 1, 0] (spG s) (fun k => k ≤ n) (fun k => cn s - k) .ret (spN_st s b ((f : Nat) : Int) ((n : Nat) : Int) true (ps s (n + 1))) (by simp) (spG_us s) rfl (spG_wf s) (by kernel_rfl) [900] (spG_V s) (fun r hr => by cases hr)
    (fun k hk => by
      by_cases hlt : k < n
      · exact sp_step hs k (by omega) (hg k hlt) fun S1 hk1 => .inl ⟨rfl, k + 1, hlt, by omega, hk1⟩
      · have e : k = n := by omega
        subst e
        rw [spG_N h]
        exact spN0_ok s _ _ _ _ _ (cn_lt hn) hb fun S1 hk1 => .inr ⟨rfl, hk1⟩) 0 (Nat.zero_le _)
noncomputable def spRb (s : ByteArray) (hs : s.size ≤ 1048576) (n : Nat) (hn : n < cn s) (hg : ∀ j, j < n → (kd (rn s j) == 2) = false) (hb : (kd (rn s n) == 2) = true) (b : Int) (f : Nat) (L : List (Int × ByteArray)) (h : sst s n = (b, f, L)) (hL : L ≠ []) : CodeC P :=
  loopV mo Z8 (by rfl) 2 64 sp_b [900, 17, 13, 9, 8, 7, 3, 1, 0] (spG s) (fun k => k ≤ n) (fun k => cn s - k) .ret (spR_st L s b ((f : Nat) : Int) ((n : Nat) : Int) true (ps s (n + 1))) (by simp) (spG_us s) rfl (spG_wf s) (by kernel_rfl) [900] (spG_V s) (fun r hr => hr)
    (fun k hk => by
      by_cases hlt : k < n
      · exact sp_step hs k (by omega) (hg k hlt) fun S1 hk1 => .inl ⟨rfl, k + 1, hlt, by omega, hk1⟩
      · have e : k = n := by omega
        subst e
        rw [spG_R h hL]
        exact spR0_ok L s _ _ _ _ _ (cn_lt hn) hb fun S1 hk1 => .inr ⟨rfl, hk1⟩) 0 (Nat.zero_le _)
end Go.Tx
