/-
 Contracts of gyreref04: how many bits, roots. Printed by rf4.py.
-/
import Derived.Test.YtekplphjbngabaaGreatDoorRtb
import Derived.Test.YtekplphjbngabaaGreatDoorRfc
set_option maxRecDepth 100000
namespace Go.R4
open Go Go.RowKit Go.Sx Go.Nm Go.Wd Go.Qt Go.Rt Go.Proofs
theorem bl_iff {w : Int} (h : 0 ≤ w) (k : Nat) : 0 < w / 2 ^ k ↔ k < (bl w).toNat := by
 have p := pow2_pos k
 have n := bl_nonneg w
 constructor
 · intro g
   rcases Nat.lt_or_ge k (bl w).toNat with c | c
   · exact c
   · exfalso
     have l := bl_lt h
     have m := pow2_le (show (bl w).toNat ≤ k from c)
     rw [Int.ediv_eq_zero_of_lt h (by omega)] at g
     omega
 · intro c
   have w0 : 0 < w := by
    rcases Int.lt_or_eq_of_le h with g | g
    · exact g
    · rw [← g] at c; simp [bl] at c
   have l := (bl_ge w0).2
   have m := pow2_le (show k ≤ (bl w - 1).toNat by omega)
   have : 1 ≤ w / 2 ^ k := (Int.le_ediv_iff_mul_le p).2 (by omega)
   omega
def nB (j w n : Int) : Int := if (bl w).toNat = 0 then n else 64 * j + ((bl w).toNat : Int)
noncomputable def B0 : Env P := ⟨⟨[], []⟩, [], 10, []⟩
noncomputable def bt_b : Code := bodyOf (innerOf P 128 1)
def bt_st (a : Int) (i : Int) (w : Int) (k : Int) (n : Int) : St := ⟨[(4, .v (.int .i64 i)), (5, .v (.int .u64 w)), (6, .v (.int .i64 k)), (3, .v (.int .i64 n)), (1, .ptr 0 0), (2, .v (.int .i64 0))], [(0, (.whole (W a), 75))], [], [0], []⟩
theorem bt_w0 (a : Int) (i : Int) (w : Int) (k : Int) (n : Int) (k_ : Nat) : stepF P B0 1 25 bt_b (bt_st a i w k n) (.b true :: []) 1000 (fun _ => some (bt_st a i (IntKind.u64.wrap (w.tdiv 2)) (IntKind.i64.wrap (k + 1)) (IntKind.i64.wrap (IntKind.i64.wrap (64 * i) + k)))) k_ =
 some (.normal, k_, [(decide (w > 0)) = true, (.int .i64 i : Value) = .int .i64 i, (.int .u64 (IntKind.u64.wrap (w.tdiv 2)) : Value) = .int .u64 (IntKind.u64.wrap (w.tdiv 2)), (.int .i64 (IntKind.i64.wrap (k + 1)) : Value) = .int .i64 (IntKind.i64.wrap (k + 1)), (.int .i64 (IntKind.i64.wrap (IntKind.i64.wrap (64 * i) + k)) : Value) = .int .i64 (IntKind.i64.wrap (IntKind.i64.wrap (64 * i) + k)), (.ptr 0 0 : SV) = .ptr 0 0, (.int .i64 0 : Value) = .int .i64 0, (W a : Value) = W a]) := by kernel_rfl
theorem bt_w0_ok (a : Int) (i : Int) (w : Int) (k : Int) (n : Int) (q0 : (decide (w > 0)) = true)  {good : Out → St → Prop} (hg : ∀ S1, Keeps S1 (bt_st a i (IntKind.u64.wrap (w.tdiv 2)) (IntKind.i64.wrap (k + 1)) (IntKind.i64.wrap (IntKind.i64.wrap (64 * i) + k))) → good .normal S1) : StepTo P B0 1 25 bt_b (bt_st a i w k n) good :=
 step_run (bt_w0 a i w k n) (ps_cons q0 (ps_cons rfl (ps_cons rfl (ps_cons rfl (ps_cons rfl (ps_cons rfl (ps_cons rfl (ps_cons rfl ps_nil)))))))) rfl hg
theorem bt_w1 (a : Int) (i : Int) (w : Int) (k : Int) (n : Int) (k_ : Nat) : stepF P B0 1 25 bt_b (bt_st a i w k n) (.b false :: []) 1000 (fun _ => some (bt_st a i w k n)) k_ =
 some ((.exit 2), k_, [(decide (w > 0)) = false, (.int .i64 i : Value) = .int .i64 i, (.int .u64 w : Value) = .int .u64 w, (.int .i64 k : Value) = .int .i64 k, (.int .i64 n : Value) = .int .i64 n, (.ptr 0 0 : SV) = .ptr 0 0, (.int .i64 0 : Value) = .int .i64 0, (W a : Value) = W a]) := by kernel_rfl
theorem bt_w1_ok (a : Int) (i : Int) (w : Int) (k : Int) (n : Int) (q0 : (decide (w > 0)) = false)  {good : Out → St → Prop} (hg : ∀ S1, Keeps S1 (bt_st a i w k n) → good (.exit 2) S1) : StepTo P B0 1 25 bt_b (bt_st a i w k n) good :=
 step_run (bt_w1 a i w k n) (ps_cons q0 (ps_cons rfl (ps_cons rfl (ps_cons rfl (ps_cons rfl (ps_cons rfl (ps_cons rfl (ps_cons rfl ps_nil)))))))) rfl hg
noncomputable def bt_g (a i w n : Int) (k : Nat) : St := bt_st a i (w / 2 ^ k) ((k : Int) + 1) (if k = 0 then n else 64 * i + (k : Int))
theorem bt_step {a i w n : Int} (hi : 0 ≤ i ∧ i < 4) (hw : 0 ≤ w ∧ w < BB) (k : Nat) (hk : k ≤ (bl w).toNat) : StepTo P B0 1 25 bt_b (bt_g a i w n k) fun o S1 => (o = .normal ∧ ∃ g' : Nat, g' ≤ (bl w).toNat ∧ (bl w).toNat - g' < (bl w).toNat - k ∧ Keeps S1 (bt_g a i w n g')) ∨ (o = .exit 2 ∧ Keeps S1 (bt_g a i w n (bl w).toNat)) := by
 have b64 := bl64 hw
 by_cases h : k < (bl w).toNat
 · refine bt_w0_ok a i _ _ _ (decide_eq_true ((bl_iff hw.1 k).2 h)) fun S1 hk1 => .inl ⟨rfl, k + 1, h, by omega, ?_⟩
   have e1 : IntKind.u64.wrap ((w / 2 ^ k).tdiv 2) = w / 2 ^ (k + 1) := by
    have p := pow2_pos k
    have d0 : 0 ≤ w / 2 ^ k := Int.ediv_nonneg hw.1 (Int.le_of_lt p)
    have d1 : w / 2 ^ k ≤ w := Int.ediv_le_self _ hw.1
    rw [Int.tdiv_eq_ediv_of_nonneg d0, Int.ediv_ediv_of_nonneg (Int.le_of_lt p), ← Int.pow_succ, wrap_u64, Int.emod_eq_of_lt (by rw [Int.pow_succ, ← Int.ediv_ediv_of_nonneg (Int.le_of_lt p)]; omega) (by rw [Int.pow_succ, ← Int.ediv_ediv_of_nonneg (Int.le_of_lt p)]; have := hw.2; omega)]
   have e2 : IntKind.i64.wrap ((k : Int) + 1 + 1) = ((k + 1 : Nat) : Int) + 1 := by rw [wrap_i64_in (by omega) (by omega)]; rfl
   have e3 : IntKind.i64.wrap (IntKind.i64.wrap (64 * i) + ((k : Int) + 1)) = 64 * i + ((k + 1 : Nat) : Int) := by
    rw [wrap_i64_in (n := 64 * i) (by omega) (by omega), wrap_i64_in (by omega) (by omega)]; rfl
   unfold bt_g
   rw [e1, e2, e3] at hk1
   rw [if_neg (by omega)]
   exact hk1
 · have ek : k = (bl w).toNat := by omega
   subst ek
   exact bt_w1_ok a i _ _ _ (decide_eq_false (fun c => h ((bl_iff hw.1 _).1 c))) fun S1 hk1 => .inr ⟨rfl, hk1⟩
noncomputable def bt_loop (a i w n : Int) (hi : 0 ≤ i ∧ i < 4) (hw : 0 ≤ w ∧ w < BB) : CodeC P :=
 loopC mo B0 (by rfl) 1 25 bt_b [0] (bt_g a i w n) (fun k => k ≤ (bl w).toNat) (fun k => (bl w).toNat - k) (.exit 2) (bt_g a i w n (bl w).toNat) (by simp) (fun _ => rfl) rfl (fun _ => by kernel_rfl) (by kernel_rfl) [] (fun _ => rfl) rfl
  (bt_step hi hw) 0 (Nat.zero_le _)
noncomputable def bt_E (a : Int) : Env P := ⟨⟨[], []⟩, [bt_loop a 0 (w0 a) 0 (by decide) (w0_range a), bt_loop a 1 (w1 a) (nB 0 (w0 a) 0) (by decide) (w1_range a), bt_loop a 2 (w2 a) (nB 1 (w1 a) (nB 0 (w0 a) 0)) (by decide) (w2_range a), bt_loop a 3 (w3 a) (nB 2 (w2 a) (nB 1 (w1 a) (nB 0 (w0 a) 0))) (by decide) (w3_range a)], 10, []⟩
theorem bits_run (a : Int) : runF P (bt_E a) 1 128 [W a] (.lit :: (.lit :: (.lit :: (.n 0 :: (.lit :: (.lit :: (.n 1 :: (.lit :: (.lit :: (.n 2 :: (.lit :: (.lit :: (.n 3 :: []))))))))))))) =
 some (.int .i64 (nB 3 (w3 a) (nB 2 (w2 a) (nB 1 (w1 a) (nB 0 (w0 a) 0)))), [Code.loop bt_b = innerOf P 128 1, (.int .i64 0 : Value) = .int .i64 0, (.int .u64 (w0 a) : Value) = .int .u64 (w0 a / 2 ^ 0), (.int .i64 1 : Value) = .int .i64 (((0 : Nat) : Int) + 1), (.int .i64 0 : Value) = .int .i64 (if 0 = 0 then 0 else 64 * 0 + ((0 : Nat) : Int)), (.ptr 0 0 : SV) = .ptr 0 0, (.int .i64 0 : Value) = .int .i64 0, (W a : Value) = W a, Code.loop bt_b = innerOf P 128 1, (.int .i64 1 : Value) = .int .i64 1, (.int .u64 (w1 a) : Value) = .int .u64 (w1 a / 2 ^ 0), (.int .i64 1 : Value) = .int .i64 (((0 : Nat) : Int) + 1), (.int .i64 (nB 0 (w0 a) 0) : Value) = .int .i64 (if 0 = 0 then nB 0 (w0 a) 0 else 64 * 1 + ((0 : Nat) : Int)), (.ptr 0 0 : SV) = .ptr 0 0, (.int .i64 0 : Value) = .int .i64 0, (W a : Value) = W a, Code.loop bt_b = innerOf P 128 1, (.int .i64 2 : Value) = .int .i64 2, (.int .u64 (w2 a) : Value) = .int .u64 (w2 a / 2 ^ 0), (.int .i64 1 : Value) = .int .i64 (((0 : Nat) : Int) + 1), (.int .i64 (nB 1 (w1 a) (nB 0 (w0 a) 0)) : Value) = .int .i64 (if 0 = 0 then nB 1 (w1 a) (nB 0 (w0 a) 0) else 64 * 2 + ((0 : Nat) : Int)), (.ptr 0 0 : SV) = .ptr 0 0, (.int .i64 0 : Value) = .int .i64 0, (W a : Value) = W a, Code.loop bt_b = innerOf P 128 1, (.int .i64 3 : Value) = .int .i64 3, (.int .u64 (w3 a) : Value) = .int .u64 (w3 a / 2 ^ 0), (.int .i64 1 : Value) = .int .i64 (((0 : Nat) : Int) + 1), (.int .i64 (nB 2 (w2 a) (nB 1 (w1 a) (nB 0 (w0 a) 0))) : Value) = .int .i64 (if 0 = 0 then nB 2 (w2 a) (nB 1 (w1 a) (nB 0 (w0 a) 0)) else 64 * 3 + ((0 : Nat) : Int)), (.ptr 0 0 : SV) = .ptr 0 0, (.int .i64 0 : Value) = .int .i64 0, (W a : Value) = W a]) := by kernel_rfl
theorem nB_eq (a : Int) : nB 3 (w3 a) (nB 2 (w2 a) (nB 1 (w1 a) (nB 0 (w0 a) 0))) = bl (tI (W a) % MM) := by
 have r0 := bl64 (w0_range a)
 have r1 := bl64 (w1_range a)
 have r2 := bl64 (w2_range a)
 have r3 := bl64 (w3_range a)
 have z : ∀ {w : Int}, 0 ≤ w → ((w != 0) = true → (bl w).toNat ≠ 0) ∧ ((w != 0) = false → (bl w).toNat = 0) := fun {w} h => by
  constructor
  · intro g
    have g : w ≠ 0 := by simpa using g
    have := (bl_ge (x := w) (by omega)).1
    omega
  · intro g
    have g : w = 0 := by simpa using g
    rw [g]; rfl
 have v : ∀ {x y : Int}, Value.int .i64 (IntKind.i64.wrap x) = .int .i64 y → 0 ≤ x → x ≤ 300 → x = y := fun {x y} h h1 h2 => by
  rw [wrap_i64_in (by omega) (by omega)] at h
  simpa using h
 have z3 := z (w3_range a).1
 have z2 := z (w2_range a).1
 have z1 := z (w1_range a).1
 have z0 := z (w0_range a).1
 cases h3 : (w3 a != 0) with
 | true =>
  have e := v (size3 h3) (by omega) (by omega)
  rw [← e]; unfold nB; rw [if_neg (z3.1 h3)]; omega
 | false =>
  have s3 : ∀ n, nB 3 (w3 a) n = n := fun n => by unfold nB; rw [if_pos (z3.2 h3)]
  rw [s3]
  cases h2 : (w2 a != 0) with
  | true =>
   have e := v (size2 h3 h2) (by omega) (by omega)
   rw [← e]; unfold nB; rw [if_neg (z2.1 h2)]; omega
  | false =>
   have s2 : ∀ n, nB 2 (w2 a) n = n := fun n => by unfold nB; rw [if_pos (z2.2 h2)]
   rw [s2]
   cases h1 : (w1 a != 0) with
   | true =>
    have e := v (size1 h3 h2 h1) (by omega) (by omega)
    rw [← e]; unfold nB; rw [if_neg (z1.1 h1)]; omega
   | false =>
    have s1 : ∀ n, nB 1 (w1 a) n = n := fun n => by unfold nB; rw [if_pos (z1.2 h1)]
    rw [s1]
    have e : bl (w0 a) = bl (tI (W a) % MM) := by simpa using size0 h3 h2 h1
    rw [← e]
    unfold nB
    split <;> omega
def bitsV : List Value → Value
 | [x] => .int .i64 (bl (tI x % MM))
 | _ => undef
theorem bits_gives (args : List Value) (h : P1 args) : Gives P 128 args.toArray (bitsV args) := by
 unfold P1 at h
 split at h
 · rename_i x
   obtain ⟨a, rfl⟩ := h
   exact gives_of_run mo (bits_run a) (ps_cons (by kernel_rfl) (ps_cons rfl (ps_cons (by rw [Int.pow_zero, Int.ediv_one]) (ps_cons rfl (ps_cons rfl (ps_cons rfl (ps_cons rfl (ps_cons rfl (ps_cons (by kernel_rfl) (ps_cons rfl (ps_cons (by rw [Int.pow_zero, Int.ediv_one]) (ps_cons rfl (ps_cons rfl (ps_cons rfl (ps_cons rfl (ps_cons rfl (ps_cons (by kernel_rfl) (ps_cons rfl (ps_cons (by rw [Int.pow_zero, Int.ediv_one]) (ps_cons rfl (ps_cons rfl (ps_cons rfl (ps_cons rfl (ps_cons rfl (ps_cons (by kernel_rfl) (ps_cons rfl (ps_cons (by rw [Int.pow_zero, Int.ediv_one]) (ps_cons rfl (ps_cons rfl (ps_cons rfl (ps_cons rfl (ps_cons rfl ps_nil)))))))))))))))))))))))))))))))) (congrArg (Value.int .i64) (nB_eq a))
 · exact h.elim
noncomputable def cBits : Ctr P := ⟨128, P1, bitsV, bits_gives⟩
noncomputable def B1 : Env P := ⟨⟨cBits :: Rd.refC, []⟩, [], 10, []⟩
def tV0 (r i : Int) : Value := .agg #[.int .u64 (bitW (w0 r) i), .int .u64 (w1 r), .int .u64 (w2 r), .int .u64 (w3 r)]
def tV1 (r i : Int) : Value := .agg #[.int .u64 (w0 r), .int .u64 (bitW (w1 r) i), .int .u64 (w2 r), .int .u64 (w3 r)]
noncomputable def fl_b : Code := bodyOf (innerOf P 77 0)
def fl_st (a : Int) (i : Int) (r : Int) : St := ⟨[(5, .v (.int .i64 i)), (1, .ptr 0 0), (2, .ptr 1 0), (3, .v (.int .i64 0)), (4, .ptr 6 0)], [(0, (.whole (W a), 75)), (1, (.whole (W 0), 75)), (6, (.whole (W r), 75))], [], [6, 1, 0], []⟩
theorem fl_w00 (a : Int) (i : Int) (r : Int) (r' : Int) (k_ : Nat) : stepF P B1 1 48 fl_b (fl_st a i r) (.b true :: (.n 0 :: (.n 0 :: (.b true :: (.b true :: []))))) 1000 (fun _ => some (fl_st a (IntKind.i64.wrap (i - 1)) r')) k_ =
 some (.normal, k_, [(decide (i ≥ 0)) = true, IntKind.i64.wrap (i.tdiv 64) = 0, 0 ≤ i.tmod 64, IntKind.i64.wrap (i.tdiv 64) = 0, P2 [tV0 r i, tV0 r i], (!(!inRB (tI (tV0 r i) * tI (tV0 r i)))) = true, P2 [W (tI (tV0 r i) * tI (tV0 r i)), W a], (decide (cmp3 (tI (W (tI (tV0 r i) * tI (tV0 r i)))) (tI (W a)) ≤ 0)) = true, (.int .i64 (IntKind.i64.wrap (i - 1)) : Value) = .int .i64 (IntKind.i64.wrap (i - 1)), (.ptr 0 0 : SV) = .ptr 0 0, (.ptr 1 0 : SV) = .ptr 1 0, (.int .i64 0 : Value) = .int .i64 0, (.ptr 6 0 : SV) = .ptr 6 0, (W a : Value) = W a, (W 0 : Value) = W 0, (tV0 r i : Value) = W r']) := by kernel_rfl
theorem fl_w00_ok (a : Int) (i : Int) (r : Int) (r' : Int) (q0 : (decide (i ≥ 0)) = true) (q1 : (inRB (tI (tV0 r i) * tI (tV0 r i))) = true) (q2 : (decide (cmp3 (tI (W (tI (tV0 r i) * tI (tV0 r i)))) (tI (W a)) ≤ 0)) = true) (x0 : IntKind.i64.wrap (i.tdiv 64) = 0) (x1 : 0 ≤ i.tmod 64) (x2 : IntKind.i64.wrap (i.tdiv 64) = 0) (x3 : P2 [tV0 r i, tV0 r i]) (x4 : (tV0 r i : Value) = W r') {good : Out → St → Prop} (hg : ∀ S1, Keeps S1 (fl_st a (IntKind.i64.wrap (i - 1)) r') → good .normal S1) : StepTo P B1 1 48 fl_b (fl_st a i r) good :=
 step_run (fl_w00 a i r r') (ps_cons q0 (ps_cons x0 (ps_cons x1 (ps_cons x2 (ps_cons x3 (ps_cons (by rw [q1]; rfl) (ps_cons (P2_W _ _) (ps_cons q2 (ps_cons rfl (ps_cons rfl (ps_cons rfl (ps_cons rfl (ps_cons rfl (ps_cons rfl (ps_cons rfl (ps_cons x4 ps_nil)))))))))))))))) rfl hg
theorem fl_w01 (a : Int) (i : Int) (r : Int) (k_ : Nat) : stepF P B1 1 48 fl_b (fl_st a i r) (.b false :: []) 1000 (fun _ => some (fl_st a i r)) k_ =
 some ((.exit 0), k_, [(decide (i ≥ 0)) = false, (.int .i64 i : Value) = .int .i64 i, (.ptr 0 0 : SV) = .ptr 0 0, (.ptr 1 0 : SV) = .ptr 1 0, (.int .i64 0 : Value) = .int .i64 0, (.ptr 6 0 : SV) = .ptr 6 0, (W a : Value) = W a, (W 0 : Value) = W 0, (W r : Value) = W r]) := by kernel_rfl
theorem fl_w01_ok (a : Int) (i : Int) (r : Int) (q0 : (decide (i ≥ 0)) = false)  {good : Out → St → Prop} (hg : ∀ S1, Keeps S1 (fl_st a i r) → good (.exit 0) S1) : StepTo P B1 1 48 fl_b (fl_st a i r) good :=
 step_run (fl_w01 a i r) (ps_cons q0 (ps_cons rfl (ps_cons rfl (ps_cons rfl (ps_cons rfl (ps_cons rfl (ps_cons rfl (ps_cons rfl (ps_cons rfl ps_nil))))))))) rfl hg
theorem fl_w02 (a : Int) (i : Int) (r : Int) (k_ : Nat) : stepF P B1 1 48 fl_b (fl_st a i r) (.b true :: (.n 0 :: (.n 0 :: (.b false :: [])))) 1000 (fun _ => some (fl_st a (IntKind.i64.wrap (i - 1)) r)) k_ =
 some (.normal, k_, [(decide (i ≥ 0)) = true, IntKind.i64.wrap (i.tdiv 64) = 0, 0 ≤ i.tmod 64, IntKind.i64.wrap (i.tdiv 64) = 0, P2 [tV0 r i, tV0 r i], (!(!inRB (tI (tV0 r i) * tI (tV0 r i)))) = false, (.int .i64 (IntKind.i64.wrap (i - 1)) : Value) = .int .i64 (IntKind.i64.wrap (i - 1)), (.ptr 0 0 : SV) = .ptr 0 0, (.ptr 1 0 : SV) = .ptr 1 0, (.int .i64 0 : Value) = .int .i64 0, (.ptr 6 0 : SV) = .ptr 6 0, (W a : Value) = W a, (W 0 : Value) = W 0, (W r : Value) = W r]) := by kernel_rfl
theorem fl_w02_ok (a : Int) (i : Int) (r : Int) (q0 : (decide (i ≥ 0)) = true) (q1 : (inRB (tI (tV0 r i) * tI (tV0 r i))) = false) (x0 : IntKind.i64.wrap (i.tdiv 64) = 0) (x1 : 0 ≤ i.tmod 64) (x2 : IntKind.i64.wrap (i.tdiv 64) = 0) (x3 : P2 [tV0 r i, tV0 r i]) {good : Out → St → Prop} (hg : ∀ S1, Keeps S1 (fl_st a (IntKind.i64.wrap (i - 1)) r) → good .normal S1) : StepTo P B1 1 48 fl_b (fl_st a i r) good :=
 step_run (fl_w02 a i r) (ps_cons q0 (ps_cons x0 (ps_cons x1 (ps_cons x2 (ps_cons x3 (ps_cons (by rw [q1]; rfl) (ps_cons rfl (ps_cons rfl (ps_cons rfl (ps_cons rfl (ps_cons rfl (ps_cons rfl (ps_cons rfl (ps_cons rfl ps_nil)))))))))))))) rfl hg
theorem fl_w03 (a : Int) (i : Int) (r : Int) (k_ : Nat) : stepF P B1 1 48 fl_b (fl_st a i r) (.b true :: (.n 0 :: (.n 0 :: (.b true :: (.b false :: []))))) 1000 (fun _ => some (fl_st a (IntKind.i64.wrap (i - 1)) r)) k_ =
 some (.normal, k_, [(decide (i ≥ 0)) = true, IntKind.i64.wrap (i.tdiv 64) = 0, 0 ≤ i.tmod 64, IntKind.i64.wrap (i.tdiv 64) = 0, P2 [tV0 r i, tV0 r i], (!(!inRB (tI (tV0 r i) * tI (tV0 r i)))) = true, P2 [W (tI (tV0 r i) * tI (tV0 r i)), W a], (decide (cmp3 (tI (W (tI (tV0 r i) * tI (tV0 r i)))) (tI (W a)) ≤ 0)) = false, (.int .i64 (IntKind.i64.wrap (i - 1)) : Value) = .int .i64 (IntKind.i64.wrap (i - 1)), (.ptr 0 0 : SV) = .ptr 0 0, (.ptr 1 0 : SV) = .ptr 1 0, (.int .i64 0 : Value) = .int .i64 0, (.ptr 6 0 : SV) = .ptr 6 0, (W a : Value) = W a, (W 0 : Value) = W 0, (W r : Value) = W r]) := by kernel_rfl
theorem fl_w03_ok (a : Int) (i : Int) (r : Int) (q0 : (decide (i ≥ 0)) = true) (q1 : (inRB (tI (tV0 r i) * tI (tV0 r i))) = true) (q2 : (decide (cmp3 (tI (W (tI (tV0 r i) * tI (tV0 r i)))) (tI (W a)) ≤ 0)) = false) (x0 : IntKind.i64.wrap (i.tdiv 64) = 0) (x1 : 0 ≤ i.tmod 64) (x2 : IntKind.i64.wrap (i.tdiv 64) = 0) (x3 : P2 [tV0 r i, tV0 r i]) {good : Out → St → Prop} (hg : ∀ S1, Keeps S1 (fl_st a (IntKind.i64.wrap (i - 1)) r) → good .normal S1) : StepTo P B1 1 48 fl_b (fl_st a i r) good :=
 step_run (fl_w03 a i r) (ps_cons q0 (ps_cons x0 (ps_cons x1 (ps_cons x2 (ps_cons x3 (ps_cons (by rw [q1]; rfl) (ps_cons (P2_W _ _) (ps_cons q2 (ps_cons rfl (ps_cons rfl (ps_cons rfl (ps_cons rfl (ps_cons rfl (ps_cons rfl (ps_cons rfl (ps_cons rfl ps_nil)))))))))))))))) rfl hg
theorem fl_w10 (a : Int) (i : Int) (r : Int) (r' : Int) (k_ : Nat) : stepF P B1 1 48 fl_b (fl_st a i r) (.b true :: (.n 1 :: (.n 1 :: (.b true :: (.b true :: []))))) 1000 (fun _ => some (fl_st a (IntKind.i64.wrap (i - 1)) r')) k_ =
 some (.normal, k_, [(decide (i ≥ 0)) = true, IntKind.i64.wrap (i.tdiv 64) = 1, 0 ≤ i.tmod 64, IntKind.i64.wrap (i.tdiv 64) = 1, P2 [tV1 r i, tV1 r i], (!(!inRB (tI (tV1 r i) * tI (tV1 r i)))) = true, P2 [W (tI (tV1 r i) * tI (tV1 r i)), W a], (decide (cmp3 (tI (W (tI (tV1 r i) * tI (tV1 r i)))) (tI (W a)) ≤ 0)) = true, (.int .i64 (IntKind.i64.wrap (i - 1)) : Value) = .int .i64 (IntKind.i64.wrap (i - 1)), (.ptr 0 0 : SV) = .ptr 0 0, (.ptr 1 0 : SV) = .ptr 1 0, (.int .i64 0 : Value) = .int .i64 0, (.ptr 6 0 : SV) = .ptr 6 0, (W a : Value) = W a, (W 0 : Value) = W 0, (tV1 r i : Value) = W r']) := by kernel_rfl
theorem fl_w10_ok (a : Int) (i : Int) (r : Int) (r' : Int) (q0 : (decide (i ≥ 0)) = true) (q1 : (inRB (tI (tV1 r i) * tI (tV1 r i))) = true) (q2 : (decide (cmp3 (tI (W (tI (tV1 r i) * tI (tV1 r i)))) (tI (W a)) ≤ 0)) = true) (x0 : IntKind.i64.wrap (i.tdiv 64) = 1) (x1 : 0 ≤ i.tmod 64) (x2 : IntKind.i64.wrap (i.tdiv 64) = 1) (x3 : P2 [tV1 r i, tV1 r i]) (x4 : (tV1 r i : Value) = W r') {good : Out → St → Prop} (hg : ∀ S1, Keeps S1 (fl_st a (IntKind.i64.wrap (i - 1)) r') → good .normal S1) : StepTo P B1 1 48 fl_b (fl_st a i r) good :=
 step_run (fl_w10 a i r r') (ps_cons q0 (ps_cons x0 (ps_cons x1 (ps_cons x2 (ps_cons x3 (ps_cons (by rw [q1]; rfl) (ps_cons (P2_W _ _) (ps_cons q2 (ps_cons rfl (ps_cons rfl (ps_cons rfl (ps_cons rfl (ps_cons rfl (ps_cons rfl (ps_cons rfl (ps_cons x4 ps_nil)))))))))))))))) rfl hg
theorem fl_w12 (a : Int) (i : Int) (r : Int) (k_ : Nat) : stepF P B1 1 48 fl_b (fl_st a i r) (.b true :: (.n 1 :: (.n 1 :: (.b false :: [])))) 1000 (fun _ => some (fl_st a (IntKind.i64.wrap (i - 1)) r)) k_ =
 some (.normal, k_, [(decide (i ≥ 0)) = true, IntKind.i64.wrap (i.tdiv 64) = 1, 0 ≤ i.tmod 64, IntKind.i64.wrap (i.tdiv 64) = 1, P2 [tV1 r i, tV1 r i], (!(!inRB (tI (tV1 r i) * tI (tV1 r i)))) = false, (.int .i64 (IntKind.i64.wrap (i - 1)) : Value) = .int .i64 (IntKind.i64.wrap (i - 1)), (.ptr 0 0 : SV) = .ptr 0 0, (.ptr 1 0 : SV) = .ptr 1 0, (.int .i64 0 : Value) = .int .i64 0, (.ptr 6 0 : SV) = .ptr 6 0, (W a : Value) = W a, (W 0 : Value) = W 0, (W r : Value) = W r]) := by kernel_rfl
theorem fl_w12_ok (a : Int) (i : Int) (r : Int) (q0 : (decide (i ≥ 0)) = true) (q1 : (inRB (tI (tV1 r i) * tI (tV1 r i))) = false) (x0 : IntKind.i64.wrap (i.tdiv 64) = 1) (x1 : 0 ≤ i.tmod 64) (x2 : IntKind.i64.wrap (i.tdiv 64) = 1) (x3 : P2 [tV1 r i, tV1 r i]) {good : Out → St → Prop} (hg : ∀ S1, Keeps S1 (fl_st a (IntKind.i64.wrap (i - 1)) r) → good .normal S1) : StepTo P B1 1 48 fl_b (fl_st a i r) good :=
 step_run (fl_w12 a i r) (ps_cons q0 (ps_cons x0 (ps_cons x1 (ps_cons x2 (ps_cons x3 (ps_cons (by rw [q1]; rfl) (ps_cons rfl (ps_cons rfl (ps_cons rfl (ps_cons rfl (ps_cons rfl (ps_cons rfl (ps_cons rfl (ps_cons rfl ps_nil)))))))))))))) rfl hg
theorem fl_w13 (a : Int) (i : Int) (r : Int) (k_ : Nat) : stepF P B1 1 48 fl_b (fl_st a i r) (.b true :: (.n 1 :: (.n 1 :: (.b true :: (.b false :: []))))) 1000 (fun _ => some (fl_st a (IntKind.i64.wrap (i - 1)) r)) k_ =
 some (.normal, k_, [(decide (i ≥ 0)) = true, IntKind.i64.wrap (i.tdiv 64) = 1, 0 ≤ i.tmod 64, IntKind.i64.wrap (i.tdiv 64) = 1, P2 [tV1 r i, tV1 r i], (!(!inRB (tI (tV1 r i) * tI (tV1 r i)))) = true, P2 [W (tI (tV1 r i) * tI (tV1 r i)), W a], (decide (cmp3 (tI (W (tI (tV1 r i) * tI (tV1 r i)))) (tI (W a)) ≤ 0)) = false, (.int .i64 (IntKind.i64.wrap (i - 1)) : Value) = .int .i64 (IntKind.i64.wrap (i - 1)), (.ptr 0 0 : SV) = .ptr 0 0, (.ptr 1 0 : SV) = .ptr 1 0, (.int .i64 0 : Value) = .int .i64 0, (.ptr 6 0 : SV) = .ptr 6 0, (W a : Value) = W a, (W 0 : Value) = W 0, (W r : Value) = W r]) := by kernel_rfl
theorem fl_w13_ok (a : Int) (i : Int) (r : Int) (q0 : (decide (i ≥ 0)) = true) (q1 : (inRB (tI (tV1 r i) * tI (tV1 r i))) = true) (q2 : (decide (cmp3 (tI (W (tI (tV1 r i) * tI (tV1 r i)))) (tI (W a)) ≤ 0)) = false) (x0 : IntKind.i64.wrap (i.tdiv 64) = 1) (x1 : 0 ≤ i.tmod 64) (x2 : IntKind.i64.wrap (i.tdiv 64) = 1) (x3 : P2 [tV1 r i, tV1 r i]) {good : Out → St → Prop} (hg : ∀ S1, Keeps S1 (fl_st a (IntKind.i64.wrap (i - 1)) r) → good .normal S1) : StepTo P B1 1 48 fl_b (fl_st a i r) good :=
 step_run (fl_w13 a i r) (ps_cons q0 (ps_cons x0 (ps_cons x1 (ps_cons x2 (ps_cons x3 (ps_cons (by rw [q1]; rfl) (ps_cons (P2_W _ _) (ps_cons q2 (ps_cons rfl (ps_cons rfl (ps_cons rfl (ps_cons rfl (ps_cons rfl (ps_cons rfl (ps_cons rfl (ps_cons rfl ps_nil)))))))))))))))) rfl hg
theorem tV0_W {r i t : Int} (h0 : 0 ≤ i) (hj : i / 64 = 0) (hr : r = t * 2 ^ (i.toNat + 1)) (r0 : 0 ≤ r) : tV0 r i = W (r + 2 ^ i.toNat) := by
 obtain ⟨f0, f1, f2, f3⟩ := setbit0 h0 hj hr rfl r0
 unfold tV0
 rw [f0, f1, f2, f3]; rfl
theorem tV1_W {r i t : Int} (h0 : 0 ≤ i) (hj : i / 64 = 1) (hr : r = t * 2 ^ (i.toNat + 1)) (r0 : 0 ≤ r) : tV1 r i = W (r + 2 ^ i.toNat) := by
 obtain ⟨f0, f1, f2, f3⟩ := setbit1 h0 hj hr rfl r0
 unfold tV1
 rw [f0, f1, f2, f3]; rfl
def flInv (a : Int) (g : Int × Int) : Prop := fInv a g ∧ ∃ t, g.2 = t * 2 ^ (g.1 + 1).toNat
theorem fl_step {a : Int} (ha : 0 ≤ a ∧ a < HH) (g : Int × Int) (hg : flInv a g) :
 StepTo P B1 1 48 fl_b (fl_st a g.1 g.2) fun o S1 => (o = .normal ∧ ∃ g', flInv a g' ∧ (g'.1 + 1).toNat < (g.1 + 1).toNat ∧ Keeps S1 (fl_st a g'.1 g'.2)) ∨ (o = .exit 0 ∧ Keeps S1 (fl_st a (-1) (rt a))) := by
 obtain ⟨i, r⟩ := g
 obtain ⟨⟨i0, i1, r0, r1, r2⟩, t, hr⟩ := hg
 simp only at i0 i1 r0 r1 r2 hr
 by_cases h0 : i ≥ 0
 · have mu : (i - 1 + 1).toNat < (i + 1).toNat := by omega
   have h2 : i / 64 = 0 ∨ i / 64 = 1 := by omega
   have i2 : -1 ≤ i - 1 := by omega
   have i3 : i - 1 ≤ 127 := by omega
   have hw : IntKind.i64.wrap (i - 1) = i - 1 := wrap_i64_in (by omega) (by omega)
   have rs := root_small r0 r1 ha.2
   have e1 : (i + 1).toNat = i.toNat + 1 := by omega
   have e3 : (i - 1 + 1).toNat = i.toNat := by omega
   rw [e1] at hr
   rw [e1, p2_succ] at r2
   have p0 := pow2_pos i.toNat
   have p1 : (2 : Int) ^ i.toNat ≤ 2 ^ 127 := pow2_le (by omega)
   obtain ⟨j1, j2, j3, j4⟩ := step_in ha r0 rs p0 p1
   have et : tI (W (r + 2 ^ i.toNat)) = r + 2 ^ i.toNat := tI_in j3
   have ea : tI (W a) = a := tI_in j4
   have t0 : 0 ≤ (r + 2 ^ i.toNat) * (r + 2 ^ i.toNat) := mul_self_nonneg' _
   have m1 : r = (t + t) * 2 ^ (i - 1 + 1).toNat := by rw [e3, hr, p2_succ, Int.mul_add, Int.add_mul]
   have m2 : r + 2 ^ i.toNat = (t + t + 1) * 2 ^ (i - 1 + 1).toNat := by rw [e3, Int.add_mul (t + t) 1, Int.one_mul]; rw [e3] at m1; omega
   have up : (r + 2 ^ i.toNat) * (r + 2 ^ i.toNat) ≤ a → flInv a (i - 1, r + 2 ^ i.toNat) := fun h => by
    refine ⟨⟨i2, i3, Int.add_nonneg r0 (Int.le_of_lt p0), h, ?_⟩, _, m2⟩
    show a < (r + 2 ^ i.toNat + 2 ^ (i - 1 + 1).toNat) * (r + 2 ^ i.toNat + 2 ^ (i - 1 + 1).toNat)
    rw [e3, Int.add_assoc]; exact r2
   have keep : ¬ (r + 2 ^ i.toNat) * (r + 2 ^ i.toNat) ≤ a → flInv a (i - 1, r) := fun h => by
    refine ⟨⟨i2, i3, r0, r1, ?_⟩, _, m1⟩
    show a < (r + 2 ^ (i - 1 + 1).toNat) * (r + 2 ^ (i - 1 + 1).toNat)
    rw [e3]; exact Int.not_le.1 h
   have q0 : decide (i ≥ 0) = true := decide_eq_true h0
   have tm := tm0 h0
   cases hi : inRB ((r + 2 ^ i.toNat) * (r + 2 ^ i.toNat)) with
   | false =>
    have hno : ¬ (r + 2 ^ i.toNat) * (r + 2 ^ i.toNat) ≤ a := fun h => by
     rw [inRB_of (by unfold InR; omega)] at hi
     cases hi
    have fin : ∀ S1, Keeps S1 (fl_st a (IntKind.i64.wrap (i - 1)) r) → (Out.normal = .normal ∧ ∃ g', flInv a g' ∧ (g'.1 + 1).toNat < (i + 1).toNat ∧ Keeps S1 (fl_st a g'.1 g'.2)) ∨ (Out.normal = .exit 0 ∧ Keeps S1 (fl_st a (-1) (rt a))) :=
     fun S1 hk => .inl ⟨rfl, (i - 1, r), keep hno, mu, by rw [hw] at hk; exact hk⟩
    rcases h2 with hj | hj
    · have e := tV0_W h0 hj hr r0
      exact fl_w02_ok a i r q0 (by rw [e, et]; exact hi) (td h0 (by omega) hj) tm (td h0 (by omega) hj) ⟨⟨_, e⟩, ⟨_, e⟩⟩ fin
    · have e := tV1_W h0 hj hr r0
      exact fl_w12_ok a i r q0 (by rw [e, et]; exact hi) (td h0 (by omega) hj) tm (td h0 (by omega) hj) ⟨⟨_, e⟩, ⟨_, e⟩⟩ fin
   | true =>
    have es : tI (W ((r + 2 ^ i.toNat) * (r + 2 ^ i.toNat))) = (r + 2 ^ i.toNat) * (r + 2 ^ i.toNat) := tI_in (inRB_iff.1 hi)
    by_cases h : (r + 2 ^ i.toNat) * (r + 2 ^ i.toNat) ≤ a
    · have hc : (decide (cmp3 ((r + 2 ^ i.toNat) * (r + 2 ^ i.toNat)) a ≤ 0)) = true := decide_eq_true (by unfold cmp3; omega)
      have fin : ∀ S1, Keeps S1 (fl_st a (IntKind.i64.wrap (i - 1)) (r + 2 ^ i.toNat)) → (Out.normal = .normal ∧ ∃ g', flInv a g' ∧ (g'.1 + 1).toNat < (i + 1).toNat ∧ Keeps S1 (fl_st a g'.1 g'.2)) ∨ (Out.normal = .exit 0 ∧ Keeps S1 (fl_st a (-1) (rt a))) :=
       fun S1 hk => .inl ⟨rfl, (i - 1, r + 2 ^ i.toNat), up h, mu, by rw [hw] at hk; exact hk⟩
      rcases h2 with hj | hj
      · have e := tV0_W h0 hj hr r0
        exact fl_w00_ok a i r (r + 2 ^ i.toNat) q0 (by rw [e, et]; exact hi) (by rw [e, et, es, ea]; exact hc) (td h0 (by omega) hj) tm (td h0 (by omega) hj) ⟨⟨_, e⟩, ⟨_, e⟩⟩ e fin
      · have e := tV1_W h0 hj hr r0
        exact fl_w10_ok a i r (r + 2 ^ i.toNat) q0 (by rw [e, et]; exact hi) (by rw [e, et, es, ea]; exact hc) (td h0 (by omega) hj) tm (td h0 (by omega) hj) ⟨⟨_, e⟩, ⟨_, e⟩⟩ e fin
    · have hc : (decide (cmp3 ((r + 2 ^ i.toNat) * (r + 2 ^ i.toNat)) a ≤ 0)) = false := decide_eq_false (by unfold cmp3; omega)
      have fin : ∀ S1, Keeps S1 (fl_st a (IntKind.i64.wrap (i - 1)) r) → (Out.normal = .normal ∧ ∃ g', flInv a g' ∧ (g'.1 + 1).toNat < (i + 1).toNat ∧ Keeps S1 (fl_st a g'.1 g'.2)) ∨ (Out.normal = .exit 0 ∧ Keeps S1 (fl_st a (-1) (rt a))) :=
       fun S1 hk => .inl ⟨rfl, (i - 1, r), keep h, mu, by rw [hw] at hk; exact hk⟩
      rcases h2 with hj | hj
      · have e := tV0_W h0 hj hr r0
        exact fl_w03_ok a i r q0 (by rw [e, et]; exact hi) (by rw [e, et, es, ea]; exact hc) (td h0 (by omega) hj) tm (td h0 (by omega) hj) ⟨⟨_, e⟩, ⟨_, e⟩⟩ fin
      · have e := tV1_W h0 hj hr r0
        exact fl_w13_ok a i r q0 (by rw [e, et]; exact hi) (by rw [e, et, es, ea]; exact hc) (td h0 (by omega) hj) tm (td h0 (by omega) hj) ⟨⟨_, e⟩, ⟨_, e⟩⟩ fin
 · have e0 : (i + 1).toNat = 0 := by omega
   rw [e0, Int.pow_zero] at r2
   have e : r = rt a := IsRt.unique ⟨r0, r1, r2⟩ (rt_is ha.1 ha.2)
   have ei : i = -1 := by omega
   subst e ei
   exact fl_w01_ok a _ _ (decide_eq_false h0) fun S1 hk => .inr ⟨rfl, hk⟩
theorem fl_begin {a : Int} (ha : 0 ≤ a ∧ a < HH) : flInv a (bl a / 2, 0) := by
 have n := bl_nonneg a
 have l := bl_lt ha.1
 have b := bl_255 ha.1 ha.2
 refine ⟨⟨by show -1 ≤ bl a / 2; omega, by show bl a / 2 ≤ 127; omega, Int.le_refl _, by simpa using ha.1, ?_⟩, 0, by simp⟩
 show a < (0 + 2 ^ (bl a / 2 + 1).toNat) * (0 + 2 ^ (bl a / 2 + 1).toNat)
 rw [Int.zero_add, ← Int.pow_add]
 have m := pow2_le (show (bl a).toNat ≤ (bl a / 2 + 1).toNat + (bl a / 2 + 1).toNat by omega)
 omega
noncomputable def fl_loop (a : Int) (ha : 0 ≤ a ∧ a < HH) : CodeC P :=
 loopC mo B1 (by rfl) 1 48 fl_b [6, 1, 0] (fun g : Int × Int => fl_st a g.1 g.2) (flInv a) (fun g => (g.1 + 1).toNat) (.exit 0) (fl_st a (-1) (rt a)) (by simp) (fun _ => rfl) rfl (fun _ => by kernel_rfl) (by kernel_rfl) [] (fun _ => rfl) rfl
  (fl_step ha) (bl a / 2, 0) (fl_begin ha)
noncomputable def fl_E (a : Int) (ha : 0 ≤ a ∧ a < HH) : Env P := ⟨⟨cBits :: Rd.refC, []⟩, [fl_loop a ha], 10, []⟩
theorem floor_run (a : Int) (ha : 0 ≤ a ∧ a < HH) : runF P (fl_E a ha) 1 77 [W a] (.b false :: (.n 0 :: [])) =
 some (.tuple #[W (rt a), .int .i64 0], [P1 [W a], (decide (cmp3 (tI (W a)) 0 < 0)) = false, P1 [W a], Code.loop fl_b = innerOf P 77 0, (.int .i64 (IntKind.i64.wrap ((bl (tI (W a) % MM)).tdiv 2)) : Value) = .int .i64 (bl a / 2), (.ptr 0 0 : SV) = .ptr 0 0, (.ptr 1 0 : SV) = .ptr 1 0, (.int .i64 0 : Value) = .int .i64 0, (.ptr 6 0 : SV) = .ptr 6 0, (W a : Value) = W a, (W 0 : Value) = W 0, (W 0 : Value) = W 0]) := by kernel_rfl
theorem floorN_run (a : Int) : runF P B1 1 77 [W a] (.b true :: []) =
 some (.tuple #[W 0, .int .i64 2], [P1 [W a], (decide (cmp3 (tI (W a)) 0 < 0)) = true]) := by kernel_rfl
theorem rfl_gives (args : List Value) (h : P1 args) : Gives P 77 args.toArray (rfV args) := by
 unfold P1 at h
 split at h
 · rename_i x
   obtain ⟨ex, rx⟩ := isW_in h
   rw [ex]
   generalize tI x = a at *
   have ea : tI (W a) = a := tI_in rx
   show Gives P _ #[W a] (.tuple #[W (if 0 ≤ tI (W a) then rt (tI (W a)) else 0), .int .i64 (rootE (tI (W a)))])
   rw [ea]
   unfold rootE
   by_cases h0 : 0 ≤ a
   · rw [if_pos h0, if_pos h0]
     have n := bl_nonneg a
     have b := bl_255 h0 rx.2
     have em : a % MM = a := Int.emod_eq_of_lt h0 (by have := rx.2; simp only [MM, HH] at *; omega)
     exact gives_of_run mo (floor_run a ⟨h0, rx.2⟩) (ps_cons (P1_W _) (ps_cons (by rw [ea]; exact decide_eq_false (by unfold cmp3; omega)) (ps_cons (P1_W _) (ps_cons (by kernel_rfl) (ps_cons (by rw [ea, em, Int.tdiv_eq_ediv_of_nonneg n, wrap_i64_in (by omega) (by omega)]) (ps_cons rfl (ps_cons rfl (ps_cons rfl (ps_cons rfl (ps_cons rfl (ps_cons rfl (ps_cons rfl ps_nil)))))))))))) rfl
   · rw [if_neg h0, if_neg h0]
     exact gives_of_run mo (floorN_run a) (ps_cons (P1_W _) (ps_cons (by rw [ea]; exact decide_eq_true (by unfold cmp3; omega)) ps_nil)) rfl
 · exact h.elim
noncomputable def rFloor : Ctr P := ⟨77, P1, rfV, rfl_gives⟩
def isR (a : Int) : Bool := decide (0 ≤ a ∧ rt a * rt a = a)
def isV : List Value → Value
 | [x] => .bool (isR (tI x))
 | _ => undef
theorem square_run (x : Int) : runF P ⟨Rd.refC, [], 10, []⟩ 1 169 [W x] [] = some (W (tI (W x) * tI (W x)), [P2 [W x, W x]]) := by kernel_rfl
def squareV : List Value → Value
 | [x] => W (tI x * tI x)
 | _ => undef
theorem square_gives (args : List Value) (h : P1 args) : Gives P 169 args.toArray (squareV args) := by
 unfold P1 at h
 split at h
 · obtain ⟨x, rfl⟩ := h
   exact gives_of_run mo (square_run x) (ps_cons (P2_W _ _) ps_nil) rfl
 · exact h.elim
noncomputable def rSquare : Ctr P := ⟨169, P1, squareV, square_gives⟩
noncomputable def B2 : Env P := ⟨⟨rSquare :: rFloor :: Rd.refC, []⟩, [], 10, []⟩
theorem isT_run (a : Int) : runF P B2 1 130 [W a] (.b true :: []) =
 some (.bool (weq (tI (W (if 0 ≤ tI (W a) then rt (tI (W a)) else 0)) * tI (W (if 0 ≤ tI (W a) then rt (tI (W a)) else 0))) a), [P1 [W a], (rootE (tI (W a)) == 0) = true, P1 [W (if 0 ≤ tI (W a) then rt (tI (W a)) else 0)]]) := by kernel_rfl
theorem isF_run (a : Int) : runF P B2 1 130 [W a] (.b false :: []) =
 some (.bool false, [P1 [W a], (rootE (tI (W a)) == 0) = false]) := by kernel_rfl
theorem is_gives (args : List Value) (h : P1 args) : Gives P 130 args.toArray (isV args) := by
 unfold P1 at h
 split at h
 · rename_i x
   obtain ⟨ex, rx⟩ := isW_in h
   rw [ex]
   generalize tI x = a at *
   have ea : tI (W a) = a := tI_in rx
   show Gives P _ #[W a] (.bool (isR (tI (W a))))
   rw [ea]
   unfold isR
   by_cases h0 : 0 ≤ a
   · obtain ⟨i1, i2, i3⟩ := rc_facts h0 rx
     have R := isT_run a
     rw [ea, if_pos h0, tI_in i1] at R
     refine gives_of_run mo R (ps_cons (P1_W _) (ps_cons (by unfold rootE; rw [if_pos h0]; rfl) (ps_cons (P1_W _) ps_nil))) ?_
     have e4 : weq (rt a * rt a) a = decide (rt a * rt a = a) := by
      rw [weq_eq, decide_eq_decide]
      simp only [InR, HH, MM] at *
      omega
     rw [e4]
     congr 1
     rw [decide_eq_decide]
     exact ⟨fun e => ⟨h0, e⟩, fun e => e.2⟩
   · have R := isF_run a
     rw [ea] at R
     refine gives_of_run mo R (ps_cons (P1_W _) (ps_cons (by unfold rootE; rw [if_neg h0]; rfl) ps_nil)) ?_
     congr 1
     exact (decide_eq_false (fun e => h0 e.1)).symm
 · exact h.elim
noncomputable def rIs : Ctr P := ⟨130, P1, isV, is_gives⟩
noncomputable def B3 : Env P := ⟨⟨rIs :: rFloor :: Rd.refC, []⟩, [], 10, []⟩
theorem ceilN_run (a : Int) : runF P B3 1 79 [W a] (.b true :: []) =
 some (.tuple #[W (if 0 ≤ tI (W a) then rt (tI (W a)) else 0), .int .i64 (rootE (tI (W a)))], [P1 [W a], (rootE (tI (W a)) != 0) = true]) := by kernel_rfl
theorem ceilE_run (a : Int) : runF P B3 1 79 [W a] (.b false :: (.b true :: [])) =
 some (.tuple #[W (if 0 ≤ tI (W a) then rt (tI (W a)) else 0), .int .i64 (rootE (tI (W a)))], [P1 [W a], (rootE (tI (W a)) != 0) = false, P1 [W a], (isR (tI (W a))) = true]) := by kernel_rfl
theorem ceilU_run (a : Int) : runF P B3 1 79 [W a] (.b false :: (.b false :: [])) =
 some (.tuple #[W (tI (W (if 0 ≤ tI (W a) then rt (tI (W a)) else 0)) + tI (W 1)), .int .i64 0], [P1 [W a], (rootE (tI (W a)) != 0) = false, P1 [W a], (isR (tI (W a))) = false, ofP [.int .i64 1], P2 [W (if 0 ≤ tI (W a) then rt (tI (W a)) else 0), W 1]]) := by kernel_rfl
theorem ceil_gives (args : List Value) (h : P1 args) : Gives P 79 args.toArray (rcV args) := by
 unfold P1 at h
 split at h
 · rename_i x
   obtain ⟨ex, rx⟩ := isW_in h
   rw [ex]
   generalize tI x = a at *
   have ea : tI (W a) = a := tI_in rx
   show Gives P _ #[W a] (.tuple #[W (if 0 ≤ tI (W a) then rc (tI (W a)) else 0), .int .i64 (rootE (tI (W a)))])
   by_cases h0 : 0 ≤ a
   · obtain ⟨i1, i2, i3⟩ := rc_facts h0 rx
     have e3 : tI (W 1) = 1 := tI_in (by unfold InR; decide)
     by_cases hs : rt a * rt a = a
     · have R := ceilE_run a
       rw [ea, if_pos h0] at R
       rw [ea, if_pos h0]
       refine gives_of_run mo R (ps_cons (P1_W _) (ps_cons (by unfold rootE; rw [if_pos h0]; rfl) (ps_cons (P1_W _) (ps_cons (by unfold isR; exact decide_eq_true ⟨h0, hs⟩) ps_nil)))) ?_
       unfold rc; rw [if_pos hs]
     · have R := ceilU_run a
       rw [ea, if_pos h0, tI_in i1, e3] at R
       rw [ea, if_pos h0]
       refine gives_of_run mo R (ps_cons (P1_W _) (ps_cons (by unfold rootE; rw [if_pos h0]; rfl) (ps_cons (P1_W _) (ps_cons (by unfold isR; exact decide_eq_false (fun e => hs e.2)) (ps_cons ⟨by decide, by decide⟩ (ps_cons (P2_W _ _) ps_nil)))))) ?_
       unfold rc rootE; rw [if_neg hs, if_pos h0]
   · have R := ceilN_run a
     rw [ea, if_neg h0] at R
     rw [ea, if_neg h0]
     refine gives_of_run mo R (ps_cons (P1_W _) (ps_cons (by unfold rootE; rw [if_neg h0]; rfl) ps_nil)) ?_
     rfl
 · exact h.elim
noncomputable def rCeil : Ctr P := ⟨79, P1, rcV, ceil_gives⟩
end Go.R4
