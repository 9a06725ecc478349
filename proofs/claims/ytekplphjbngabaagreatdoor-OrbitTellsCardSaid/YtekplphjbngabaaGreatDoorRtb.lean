/-
 Contracts of package root, first part: most, floor. Printed by rtB.py.
-/
import Derived.Test.YtekplphjbngabaaGreatDoorSta
set_option maxRecDepth 100000
namespace Go.Rt
open Go Go.RowKit Go.Sx Go.Nm Go.Wd Go.Qt Go.Proofs
def mostV : List Value → Value
 | [x] => .int .i64 (bl (tI x % MM) / 2)
 | _ => undef
theorem half {w b : Int} (h : Value.int .i64 w = .int .i64 b) (h0 : 0 ≤ b) (h1 : b ≤ 256) : Value.int .i64 (IntKind.i64.wrap (w.tdiv 2)) = .int .i64 (b / 2) := by
 have e : w = b := by injection h
 rw [e, Int.tdiv_eq_ediv_of_nonneg h0, wrap_i64_in (by omega) (by omega)]
theorem bl_all (a : Int) : 0 ≤ bl (tI (W a) % MM) ∧ bl (tI (W a) % MM) ≤ 256 := by
 have e : (2 : Int) ^ 256 = MM := by decide
 have h0 := Int.emod_nonneg (tI (W a)) (show MM ≠ 0 by decide)
 have h1 := Int.emod_lt_of_pos (tI (W a)) (show 0 < MM by decide)
 exact ⟨bl_nonneg _, bl_le 256 h0 (by rw [e]; exact h1)⟩
theorem most_run0 (a : Int) : runF P Q1 1 185 [W a] (.lit :: (.lit :: (.lit :: (.b true :: [])))) = some (.int .i64 (IntKind.i64.wrap ((IntKind.i64.wrap (192 + (bl (w3 a)))).tdiv 2)), [(w3 a != 0) = true, u64P [.int .u64 (w3 a)]]) := by kernel_rfl
theorem most_run1 (a : Int) : runF P Q1 1 185 [W a] (.lit :: (.lit :: (.lit :: (.b false :: (.lit :: (.lit :: (.b true :: []))))))) = some (.int .i64 (IntKind.i64.wrap ((IntKind.i64.wrap (128 + (bl (w2 a)))).tdiv 2)), [(w3 a != 0) = false, (w2 a != 0) = true, u64P [.int .u64 (w2 a)]]) := by kernel_rfl
theorem most_run2 (a : Int) : runF P Q1 1 185 [W a] (.lit :: (.lit :: (.lit :: (.b false :: (.lit :: (.lit :: (.b false :: (.lit :: (.lit :: (.b true :: [])))))))))) = some (.int .i64 (IntKind.i64.wrap ((IntKind.i64.wrap (64 + (bl (w1 a)))).tdiv 2)), [(w3 a != 0) = false, (w2 a != 0) = false, (w1 a != 0) = true, u64P [.int .u64 (w1 a)]]) := by kernel_rfl
theorem most_run3 (a : Int) : runF P Q1 1 185 [W a] (.lit :: (.lit :: (.lit :: (.b false :: (.lit :: (.lit :: (.b false :: (.lit :: (.lit :: (.b false :: [])))))))))) = some (.int .i64 (IntKind.i64.wrap ((bl (w0 a)).tdiv 2)), [(w3 a != 0) = false, (w2 a != 0) = false, (w1 a != 0) = false, u64P [.int .u64 (w0 a)]]) := by kernel_rfl
theorem most_gives (args : List Value) (h : P1 args) : Gives P 185 args.toArray (mostV args) := by
 unfold P1 at h
 split at h
 · obtain ⟨a, rfl⟩ := h
   obtain ⟨b0, b1⟩ := bl_all a
   cases q3 : (w3 a != 0) with
   | true => exact gives_of_run mo (most_run0 a) (ps_cons q3 (ps_cons (u64P_w (w3_range a)) ps_nil)) (half (size3 q3) b0 b1)
   | false =>
    cases q2 : (w2 a != 0) with
    | true => exact gives_of_run mo (most_run1 a) (ps_cons q3 (ps_cons q2 (ps_cons (u64P_w (w2_range a)) ps_nil))) (half (size2 q3 q2) b0 b1)
    | false =>
     cases q1 : (w1 a != 0) with
     | true => exact gives_of_run mo (most_run2 a) (ps_cons q3 (ps_cons q2 (ps_cons q1 (ps_cons (u64P_w (w1_range a)) ps_nil)))) (half (size1 q3 q2 q1) b0 b1)
     | false => exact gives_of_run mo (most_run3 a) (ps_cons q3 (ps_cons q2 (ps_cons q1 (ps_cons (u64P_w (w0_range a)) ps_nil)))) (half (size0 q3 q2 q1) b0 b1)
 · exact h.elim
noncomputable def most : Ctr P := ⟨185, P1, mostV, most_gives⟩
theorem must_run (e : Int) : runF P Q0 1 165 [.bool true, .int .i64 e] [] = some (.tuple #[], []) := by kernel_rfl
theorem must_gives (args : List Value) (h : mustP args) : Gives P 165 args.toArray (.tuple #[]) := by
 unfold mustP at h
 split at h
 · subst h
   exact gives_of_run mo (must_run _) ps_nil rfl
 · exact h.elim
noncomputable def must : Ctr P := ⟨165, mustP, fun _ => .tuple #[], must_gives⟩
def bitV0 (i : Int) : Value := .agg #[.int .u64 (IntKind.u64.wrap (1 * 2 ^ (min (i.tmod 64).toNat 64))), .int .u64 0, .int .u64 0, .int .u64 0]
def bitV1 (i : Int) : Value := .agg #[.int .u64 0, .int .u64 (IntKind.u64.wrap (1 * 2 ^ (min (i.tmod 64).toNat 64))), .int .u64 0, .int .u64 0]
def bitV2 (i : Int) : Value := .agg #[.int .u64 0, .int .u64 0, .int .u64 (IntKind.u64.wrap (1 * 2 ^ (min (i.tmod 64).toNat 64))), .int .u64 0]
def bitV3 (i : Int) : Value := .agg #[.int .u64 0, .int .u64 0, .int .u64 0, .int .u64 (IntKind.u64.wrap (1 * 2 ^ (min (i.tmod 64).toNat 64)))]
theorem sh_val {i : Int} (h : 0 ≤ i) : IntKind.u64.wrap (1 * 2 ^ (min (i.tmod 64).toNat 64)) = 2 ^ (i % 64).toNat ∧ (0 : Int) ≤ 2 ^ (i % 64).toNat ∧ (2 : Int) ^ (i % 64).toNat < BB := by
 have h1 : (i % 64).toNat < 64 := by omega
 have h2 : (2 : Int) ^ (i % 64).toNat < 2 ^ 64 := by
  have : (2 : Int) ^ ((i % 64).toNat + 1) ≤ 2 ^ 64 := pow2_le (by omega)
  have := pow2_pos (i % 64).toNat
  rw [Int.pow_succ] at *
  omega
 have h3 := pow2_pos (i % 64).toNat
 have e : (2 : Int) ^ 64 = BB := by decide
 rw [e] at h2
 rw [Int.tmod_eq_emod_of_nonneg h, Nat.min_eq_left (by omega), Int.one_mul]
 refine ⟨?_, Int.le_of_lt h3, h2⟩
 rw [wrap_u64]; exact Int.emod_eq_of_lt (Int.le_of_lt h3) h2
theorem bitV0_W {i : Int} (h : 0 ≤ i) (hj : i / 64 = 0) : bitV0 i = W (2 ^ i.toNat) := by
 obtain ⟨e, h1, h2⟩ := sh_val h
 have p := bit_pow h hj
 unfold bitV0
 rw [e]
 refine W_of h1 h2 (Int.le_refl 0) (by decide) (Int.le_refl 0) (by decide) (Int.le_refl 0) (by decide) ?_
 rw [p]
 generalize (2 : Int) ^ (i % 64).toNat = z
 have k : ((2 : Int) ^ 64) ^ (0 : Int).toNat = 1 := by decide
 rw [k]
 congr 1
 omega
theorem bitV1_W {i : Int} (h : 0 ≤ i) (hj : i / 64 = 1) : bitV1 i = W (2 ^ i.toNat) := by
 obtain ⟨e, h1, h2⟩ := sh_val h
 have p := bit_pow h hj
 unfold bitV1
 rw [e]
 refine W_of (Int.le_refl 0) (by decide) h1 h2 (Int.le_refl 0) (by decide) (Int.le_refl 0) (by decide) ?_
 rw [p]
 generalize (2 : Int) ^ (i % 64).toNat = z
 have k : ((2 : Int) ^ 64) ^ (1 : Int).toNat = BB := by decide
 rw [k]
 congr 1
 omega
theorem bitV2_W {i : Int} (h : 0 ≤ i) (hj : i / 64 = 2) : bitV2 i = W (2 ^ i.toNat) := by
 obtain ⟨e, h1, h2⟩ := sh_val h
 have p := bit_pow h hj
 unfold bitV2
 rw [e]
 refine W_of (Int.le_refl 0) (by decide) (Int.le_refl 0) (by decide) h1 h2 (Int.le_refl 0) (by decide) ?_
 rw [p]
 generalize (2 : Int) ^ (i % 64).toNat = z
 have k : ((2 : Int) ^ 64) ^ (2 : Int).toNat = B2 := by decide
 rw [k]
 congr 1
 omega
theorem bitV3_W {i : Int} (h : 0 ≤ i) (hj : i / 64 = 3) : bitV3 i = W (2 ^ i.toNat) := by
 obtain ⟨e, h1, h2⟩ := sh_val h
 have p := bit_pow h hj
 unfold bitV3
 rw [e]
 refine W_of (Int.le_refl 0) (by decide) (Int.le_refl 0) (by decide) (Int.le_refl 0) (by decide) h1 h2 ?_
 rw [p]
 generalize (2 : Int) ^ (i % 64).toNat = z
 have k : ((2 : Int) ^ 64) ^ (3 : Int).toNat = B3 := by decide
 rw [k]
 congr 1
 omega
noncomputable def RF : Env P := ⟨⟨[most, must] ++ wideC, []⟩, [], 10, []⟩
noncomputable def fb : Code := bodyOf (innerOf P 184 0)
noncomputable def fRec (a : Int) : LoopS := recOf (innerOf P 119 0) 37 [(13, .fn 184 [(8, 0)]), (12, .v (W a)), (11, .v (.tuple #[])), (10, .v (.bool (decide (cmp3 (tI (W a)) 0 ≥ 0)))), (9, .v (.int .i64 (cmp3 (tI (W a)) 0))), (8, .v (W a)), (2, .ptr 1 0), (1, .ptr 0 0), (0, .v (W a))]
noncomputable def fs (a i r : Int) : St := ⟨[(3, .v (.int .i64 i)), (0, .yld 12), (1, .ptr 8 0)], [(8, (.whole (W a), 75)), (1, (.whole (W r), 75)), (0, (.whole (W a), 75))], [(12, fRec a)], [12, 8, 1, 0], []⟩
noncomputable def fz (a r : Int) : St := ⟨[(0, .yld 12), (1, .ptr 8 0)], [(8, (.whole (W a), 75)), (1, (.whole (W r), 75)), (0, (.whole (W a), 75))], [(12, fRec a)], [12, 8, 1, 0], []⟩
theorem fr_u0 (a i r m s : Int) (k : Nat) : stepF P RF 3 21 fb (fs a i r) (.b true :: (.n 0 :: (.b true :: (.b true :: [])))) 1000 (fun _ => some (fs a m s)) k =
 some (.normal, k, [(decide (i ≥ 0)) = true, 0 ≤ i.tmod 64, IntKind.i64.wrap (i.tdiv 64) = 0, P2 [W r, bitV0 i], P2 [W (tI (W r) + tI (bitV0 i)), W (tI (W r) + tI (bitV0 i))], (!(!inRB (tI (W (tI (W r) + tI (bitV0 i))) * tI (W (tI (W r) + tI (bitV0 i)))))) = true, P2 [W (tI (W (tI (W r) + tI (bitV0 i))) * tI (W (tI (W r) + tI (bitV0 i)))), W a], (decide (cmp3 (tI (W (tI (W (tI (W r) + tI (bitV0 i))) * tI (W (tI (W r) + tI (bitV0 i)))))) (tI (W a)) ≤ 0)) = true, (.int .i64 (IntKind.i64.wrap (i - 1)) : Value) = .int .i64 m, (.yld 12 : SV) = .yld 12, (.ptr 8 0 : SV) = .ptr 8 0, (W a : Value) = W a, (W (tI (W r) + tI (bitV0 i)) : Value) = W s, (W a : Value) = W a, fRec a = fRec a]) := by kernel_rfl
theorem fr_o0 (a i r m s : Int) (k : Nat) : stepF P RF 3 21 fb (fs a i r) (.b true :: (.n 0 :: (.b false :: []))) 1000 (fun _ => some (fs a m s)) k =
 some (.normal, k, [(decide (i ≥ 0)) = true, 0 ≤ i.tmod 64, IntKind.i64.wrap (i.tdiv 64) = 0, P2 [W r, bitV0 i], P2 [W (tI (W r) + tI (bitV0 i)), W (tI (W r) + tI (bitV0 i))], (!(!inRB (tI (W (tI (W r) + tI (bitV0 i))) * tI (W (tI (W r) + tI (bitV0 i)))))) = false, (.int .i64 (IntKind.i64.wrap (i - 1)) : Value) = .int .i64 m, (.yld 12 : SV) = .yld 12, (.ptr 8 0 : SV) = .ptr 8 0, (W a : Value) = W a, (W r : Value) = W s, (W a : Value) = W a, fRec a = fRec a]) := by kernel_rfl
theorem fr_g0 (a i r m s : Int) (k : Nat) : stepF P RF 3 21 fb (fs a i r) (.b true :: (.n 0 :: (.b true :: (.b false :: [])))) 1000 (fun _ => some (fs a m s)) k =
 some (.normal, k, [(decide (i ≥ 0)) = true, 0 ≤ i.tmod 64, IntKind.i64.wrap (i.tdiv 64) = 0, P2 [W r, bitV0 i], P2 [W (tI (W r) + tI (bitV0 i)), W (tI (W r) + tI (bitV0 i))], (!(!inRB (tI (W (tI (W r) + tI (bitV0 i))) * tI (W (tI (W r) + tI (bitV0 i)))))) = true, P2 [W (tI (W (tI (W r) + tI (bitV0 i))) * tI (W (tI (W r) + tI (bitV0 i)))), W a], (decide (cmp3 (tI (W (tI (W (tI (W r) + tI (bitV0 i))) * tI (W (tI (W r) + tI (bitV0 i)))))) (tI (W a)) ≤ 0)) = false, (.int .i64 (IntKind.i64.wrap (i - 1)) : Value) = .int .i64 m, (.yld 12 : SV) = .yld 12, (.ptr 8 0 : SV) = .ptr 8 0, (W a : Value) = W a, (W r : Value) = W s, (W a : Value) = W a, fRec a = fRec a]) := by kernel_rfl
theorem fr_u1 (a i r m s : Int) (k : Nat) : stepF P RF 3 21 fb (fs a i r) (.b true :: (.n 1 :: (.b true :: (.b true :: [])))) 1000 (fun _ => some (fs a m s)) k =
 some (.normal, k, [(decide (i ≥ 0)) = true, 0 ≤ i.tmod 64, IntKind.i64.wrap (i.tdiv 64) = 1, P2 [W r, bitV1 i], P2 [W (tI (W r) + tI (bitV1 i)), W (tI (W r) + tI (bitV1 i))], (!(!inRB (tI (W (tI (W r) + tI (bitV1 i))) * tI (W (tI (W r) + tI (bitV1 i)))))) = true, P2 [W (tI (W (tI (W r) + tI (bitV1 i))) * tI (W (tI (W r) + tI (bitV1 i)))), W a], (decide (cmp3 (tI (W (tI (W (tI (W r) + tI (bitV1 i))) * tI (W (tI (W r) + tI (bitV1 i)))))) (tI (W a)) ≤ 0)) = true, (.int .i64 (IntKind.i64.wrap (i - 1)) : Value) = .int .i64 m, (.yld 12 : SV) = .yld 12, (.ptr 8 0 : SV) = .ptr 8 0, (W a : Value) = W a, (W (tI (W r) + tI (bitV1 i)) : Value) = W s, (W a : Value) = W a, fRec a = fRec a]) := by kernel_rfl
theorem fr_o1 (a i r m s : Int) (k : Nat) : stepF P RF 3 21 fb (fs a i r) (.b true :: (.n 1 :: (.b false :: []))) 1000 (fun _ => some (fs a m s)) k =
 some (.normal, k, [(decide (i ≥ 0)) = true, 0 ≤ i.tmod 64, IntKind.i64.wrap (i.tdiv 64) = 1, P2 [W r, bitV1 i], P2 [W (tI (W r) + tI (bitV1 i)), W (tI (W r) + tI (bitV1 i))], (!(!inRB (tI (W (tI (W r) + tI (bitV1 i))) * tI (W (tI (W r) + tI (bitV1 i)))))) = false, (.int .i64 (IntKind.i64.wrap (i - 1)) : Value) = .int .i64 m, (.yld 12 : SV) = .yld 12, (.ptr 8 0 : SV) = .ptr 8 0, (W a : Value) = W a, (W r : Value) = W s, (W a : Value) = W a, fRec a = fRec a]) := by kernel_rfl
theorem fr_g1 (a i r m s : Int) (k : Nat) : stepF P RF 3 21 fb (fs a i r) (.b true :: (.n 1 :: (.b true :: (.b false :: [])))) 1000 (fun _ => some (fs a m s)) k =
 some (.normal, k, [(decide (i ≥ 0)) = true, 0 ≤ i.tmod 64, IntKind.i64.wrap (i.tdiv 64) = 1, P2 [W r, bitV1 i], P2 [W (tI (W r) + tI (bitV1 i)), W (tI (W r) + tI (bitV1 i))], (!(!inRB (tI (W (tI (W r) + tI (bitV1 i))) * tI (W (tI (W r) + tI (bitV1 i)))))) = true, P2 [W (tI (W (tI (W r) + tI (bitV1 i))) * tI (W (tI (W r) + tI (bitV1 i)))), W a], (decide (cmp3 (tI (W (tI (W (tI (W r) + tI (bitV1 i))) * tI (W (tI (W r) + tI (bitV1 i)))))) (tI (W a)) ≤ 0)) = false, (.int .i64 (IntKind.i64.wrap (i - 1)) : Value) = .int .i64 m, (.yld 12 : SV) = .yld 12, (.ptr 8 0 : SV) = .ptr 8 0, (W a : Value) = W a, (W r : Value) = W s, (W a : Value) = W a, fRec a = fRec a]) := by kernel_rfl
theorem fr_u2 (a i r m s : Int) (k : Nat) : stepF P RF 3 21 fb (fs a i r) (.b true :: (.n 2 :: (.b true :: (.b true :: [])))) 1000 (fun _ => some (fs a m s)) k =
 some (.normal, k, [(decide (i ≥ 0)) = true, 0 ≤ i.tmod 64, IntKind.i64.wrap (i.tdiv 64) = 2, P2 [W r, bitV2 i], P2 [W (tI (W r) + tI (bitV2 i)), W (tI (W r) + tI (bitV2 i))], (!(!inRB (tI (W (tI (W r) + tI (bitV2 i))) * tI (W (tI (W r) + tI (bitV2 i)))))) = true, P2 [W (tI (W (tI (W r) + tI (bitV2 i))) * tI (W (tI (W r) + tI (bitV2 i)))), W a], (decide (cmp3 (tI (W (tI (W (tI (W r) + tI (bitV2 i))) * tI (W (tI (W r) + tI (bitV2 i)))))) (tI (W a)) ≤ 0)) = true, (.int .i64 (IntKind.i64.wrap (i - 1)) : Value) = .int .i64 m, (.yld 12 : SV) = .yld 12, (.ptr 8 0 : SV) = .ptr 8 0, (W a : Value) = W a, (W (tI (W r) + tI (bitV2 i)) : Value) = W s, (W a : Value) = W a, fRec a = fRec a]) := by kernel_rfl
theorem fr_o2 (a i r m s : Int) (k : Nat) : stepF P RF 3 21 fb (fs a i r) (.b true :: (.n 2 :: (.b false :: []))) 1000 (fun _ => some (fs a m s)) k =
 some (.normal, k, [(decide (i ≥ 0)) = true, 0 ≤ i.tmod 64, IntKind.i64.wrap (i.tdiv 64) = 2, P2 [W r, bitV2 i], P2 [W (tI (W r) + tI (bitV2 i)), W (tI (W r) + tI (bitV2 i))], (!(!inRB (tI (W (tI (W r) + tI (bitV2 i))) * tI (W (tI (W r) + tI (bitV2 i)))))) = false, (.int .i64 (IntKind.i64.wrap (i - 1)) : Value) = .int .i64 m, (.yld 12 : SV) = .yld 12, (.ptr 8 0 : SV) = .ptr 8 0, (W a : Value) = W a, (W r : Value) = W s, (W a : Value) = W a, fRec a = fRec a]) := by kernel_rfl
theorem fr_g2 (a i r m s : Int) (k : Nat) : stepF P RF 3 21 fb (fs a i r) (.b true :: (.n 2 :: (.b true :: (.b false :: [])))) 1000 (fun _ => some (fs a m s)) k =
 some (.normal, k, [(decide (i ≥ 0)) = true, 0 ≤ i.tmod 64, IntKind.i64.wrap (i.tdiv 64) = 2, P2 [W r, bitV2 i], P2 [W (tI (W r) + tI (bitV2 i)), W (tI (W r) + tI (bitV2 i))], (!(!inRB (tI (W (tI (W r) + tI (bitV2 i))) * tI (W (tI (W r) + tI (bitV2 i)))))) = true, P2 [W (tI (W (tI (W r) + tI (bitV2 i))) * tI (W (tI (W r) + tI (bitV2 i)))), W a], (decide (cmp3 (tI (W (tI (W (tI (W r) + tI (bitV2 i))) * tI (W (tI (W r) + tI (bitV2 i)))))) (tI (W a)) ≤ 0)) = false, (.int .i64 (IntKind.i64.wrap (i - 1)) : Value) = .int .i64 m, (.yld 12 : SV) = .yld 12, (.ptr 8 0 : SV) = .ptr 8 0, (W a : Value) = W a, (W r : Value) = W s, (W a : Value) = W a, fRec a = fRec a]) := by kernel_rfl
theorem fr_u3 (a i r m s : Int) (k : Nat) : stepF P RF 3 21 fb (fs a i r) (.b true :: (.n 3 :: (.b true :: (.b true :: [])))) 1000 (fun _ => some (fs a m s)) k =
 some (.normal, k, [(decide (i ≥ 0)) = true, 0 ≤ i.tmod 64, IntKind.i64.wrap (i.tdiv 64) = 3, P2 [W r, bitV3 i], P2 [W (tI (W r) + tI (bitV3 i)), W (tI (W r) + tI (bitV3 i))], (!(!inRB (tI (W (tI (W r) + tI (bitV3 i))) * tI (W (tI (W r) + tI (bitV3 i)))))) = true, P2 [W (tI (W (tI (W r) + tI (bitV3 i))) * tI (W (tI (W r) + tI (bitV3 i)))), W a], (decide (cmp3 (tI (W (tI (W (tI (W r) + tI (bitV3 i))) * tI (W (tI (W r) + tI (bitV3 i)))))) (tI (W a)) ≤ 0)) = true, (.int .i64 (IntKind.i64.wrap (i - 1)) : Value) = .int .i64 m, (.yld 12 : SV) = .yld 12, (.ptr 8 0 : SV) = .ptr 8 0, (W a : Value) = W a, (W (tI (W r) + tI (bitV3 i)) : Value) = W s, (W a : Value) = W a, fRec a = fRec a]) := by kernel_rfl
theorem fr_o3 (a i r m s : Int) (k : Nat) : stepF P RF 3 21 fb (fs a i r) (.b true :: (.n 3 :: (.b false :: []))) 1000 (fun _ => some (fs a m s)) k =
 some (.normal, k, [(decide (i ≥ 0)) = true, 0 ≤ i.tmod 64, IntKind.i64.wrap (i.tdiv 64) = 3, P2 [W r, bitV3 i], P2 [W (tI (W r) + tI (bitV3 i)), W (tI (W r) + tI (bitV3 i))], (!(!inRB (tI (W (tI (W r) + tI (bitV3 i))) * tI (W (tI (W r) + tI (bitV3 i)))))) = false, (.int .i64 (IntKind.i64.wrap (i - 1)) : Value) = .int .i64 m, (.yld 12 : SV) = .yld 12, (.ptr 8 0 : SV) = .ptr 8 0, (W a : Value) = W a, (W r : Value) = W s, (W a : Value) = W a, fRec a = fRec a]) := by kernel_rfl
theorem fr_g3 (a i r m s : Int) (k : Nat) : stepF P RF 3 21 fb (fs a i r) (.b true :: (.n 3 :: (.b true :: (.b false :: [])))) 1000 (fun _ => some (fs a m s)) k =
 some (.normal, k, [(decide (i ≥ 0)) = true, 0 ≤ i.tmod 64, IntKind.i64.wrap (i.tdiv 64) = 3, P2 [W r, bitV3 i], P2 [W (tI (W r) + tI (bitV3 i)), W (tI (W r) + tI (bitV3 i))], (!(!inRB (tI (W (tI (W r) + tI (bitV3 i))) * tI (W (tI (W r) + tI (bitV3 i)))))) = true, P2 [W (tI (W (tI (W r) + tI (bitV3 i))) * tI (W (tI (W r) + tI (bitV3 i)))), W a], (decide (cmp3 (tI (W (tI (W (tI (W r) + tI (bitV3 i))) * tI (W (tI (W r) + tI (bitV3 i)))))) (tI (W a)) ≤ 0)) = false, (.int .i64 (IntKind.i64.wrap (i - 1)) : Value) = .int .i64 m, (.yld 12 : SV) = .yld 12, (.ptr 8 0 : SV) = .ptr 8 0, (W a : Value) = W a, (W r : Value) = W s, (W a : Value) = W a, fRec a = fRec a]) := by kernel_rfl
theorem fr_x (a i r s : Int) (k : Nat) : stepF P RF 3 21 fb (fs a i r) (.b false :: []) 1000 (fun _ => some (fz a s)) k =
 some (.exit 0, k, [(decide (i ≥ 0)) = false, (.yld 12 : SV) = .yld 12, (.ptr 8 0 : SV) = .ptr 8 0, (W a : Value) = W a, (W r : Value) = W s, (W a : Value) = W a, fRec a = fRec a]) := by kernel_rfl
end Go.Rt
/-
 Contracts of package root, second part: floor's loop. Printed by rtC.py.
-/
namespace Go.Rt
open Go Go.RowKit Go.Sx Go.Nm Go.Wd Go.Qt Go.Proofs
def fInv (a : Int) (g : Int × Int) : Prop := -1 ≤ g.1 ∧ g.1 ≤ 127 ∧ 0 ≤ g.2 ∧ g.2 * g.2 ≤ a ∧ a < (g.2 + 2 ^ (g.1 + 1).toNat) * (g.2 + 2 ^ (g.1 + 1).toNat)
theorem root_small {a r : Int} (_ : 0 ≤ r) (h : r * r ≤ a) (ha : a < HH) : r < 2 ^ 128 := by
 rcases Int.lt_or_le r (2 ^ 128) with c | c
 · exact c
 · exfalso
   have := sq_le (show (0 : Int) ≤ 2 ^ 128 by decide) c
   have e : (2 : Int) ^ 128 * 2 ^ 128 = 2 * HH := by decide
   have : (0 : Int) < HH := by decide
   omega
theorem step_in {a r p : Int} (ha : 0 ≤ a ∧ a < HH) (r0 : 0 ≤ r) (rs : r < 2 ^ 128) (p0 : 0 < p) (p1 : p ≤ 2 ^ 127) : InR r ∧ InR p ∧ InR (r + p) ∧ InR a := by
 have k127 : (2 : Int) ^ 127 = 170141183460469231731687303715884105728 := by decide
 have k128 : (2 : Int) ^ 128 = 340282366920938463463374607431768211456 := by decide
 rw [k127] at p1
 rw [k128] at rs
 simp only [InR, HH] at *
 omega
theorem f_step {a : Int} (ha : 0 ≤ a ∧ a < HH) (g : Int × Int) (hg : fInv a g) :
 StepTo P RF 3 21 fb (fs a g.1 g.2) fun o S1 => (o = .normal ∧ ∃ g', fInv a g' ∧ (g'.1 + 1).toNat < (g.1 + 1).toNat ∧ Keeps S1 (fs a g'.1 g'.2)) ∨ (o = .exit 0 ∧ Keeps S1 (fz a (rt a))) := by
 obtain ⟨i, r⟩ := g
 obtain ⟨i0, i1, r0, r1, r2⟩ := hg
 simp only at i0 i1 r0 r1 r2
 by_cases h0 : i ≥ 0
 · have mu : (i - 1 + 1).toNat < (i + 1).toNat := by omega
   have h4 : i / 64 = 0 ∨ i / 64 = 1 ∨ i / 64 = 2 ∨ i / 64 = 3 := by omega
   have i2 : -1 ≤ i - 1 := by omega
   have i3 : i - 1 ≤ 127 := by omega
   have hw : IntKind.i64.wrap (i - 1) = i - 1 := wrap_i64_in (by omega) (by omega)
   have ht : ∀ {j : Int}, i / 64 = j → IntKind.i64.wrap (i.tdiv 64) = j := fun hj => td h0 (by omega) hj
   have rs := root_small r0 r1 ha.2
   have e1 : (i + 1).toNat = i.toNat + 1 := by omega
   have e3 : (i - 1 + 1).toNat = i.toNat := by omega
   rw [e1, p2_succ] at r2
   have p0 := pow2_pos i.toNat
   have p1 : (2 : Int) ^ i.toNat ≤ 2 ^ 127 := pow2_le (by omega)
   obtain ⟨j1, j2, j3, j4⟩ := step_in ha r0 rs p0 p1
   have er : tI (W r) = r := tI_in j1
   have ep : tI (W (2 ^ i.toNat)) = 2 ^ i.toNat := tI_in j2
   have et : tI (W (r + 2 ^ i.toNat)) = r + 2 ^ i.toNat := tI_in j3
   have ea : tI (W a) = a := tI_in j4
   have t0 : 0 ≤ (r + 2 ^ i.toNat) * (r + 2 ^ i.toNat) := mul_self_nonneg' _
   have up : fInv a (i - 1, r + 2 ^ i.toNat) ∨ ¬ (r + 2 ^ i.toNat) * (r + 2 ^ i.toNat) ≤ a := by
    by_cases h : (r + 2 ^ i.toNat) * (r + 2 ^ i.toNat) ≤ a
    · left
      refine ⟨i2, i3, Int.add_nonneg r0 (Int.le_of_lt p0), h, ?_⟩
      show a < (r + 2 ^ i.toNat + 2 ^ (i - 1 + 1).toNat) * (r + 2 ^ i.toNat + 2 ^ (i - 1 + 1).toNat)
      rw [e3, Int.add_assoc]; exact r2
    · exact .inr h
   have keep : ¬ (r + 2 ^ i.toNat) * (r + 2 ^ i.toNat) ≤ a → fInv a (i - 1, r) := fun h => by
    refine ⟨i2, i3, r0, r1, ?_⟩
    show a < (r + 2 ^ (i - 1 + 1).toNat) * (r + 2 ^ (i - 1 + 1).toNat)
    rw [e3]; exact Int.not_le.1 h
   cases hi : inRB ((r + 2 ^ i.toNat) * (r + 2 ^ i.toNat)) with
   | false =>
    have hno : ¬ (r + 2 ^ i.toNat) * (r + 2 ^ i.toNat) ≤ a := fun h => by
     rw [inRB_of (by unfold InR; omega)] at hi
     cases hi
    have hin : (!(!inRB ((r + 2 ^ i.toNat) * (r + 2 ^ i.toNat)))) = false := by rw [hi]; rfl
    have fin : ∀ S1, Keeps S1 (fs a (i - 1) r) → (Out.normal = .normal ∧ ∃ g', fInv a g' ∧ (g'.1 + 1).toNat < (i + 1).toNat ∧ Keeps S1 (fs a g'.1 g'.2)) ∨ (Out.normal = .exit 0 ∧ Keeps S1 (fz a (rt a))) :=
     fun S1 hk => .inl ⟨rfl, (i - 1, r), keep hno, mu, hk⟩
    rcases h4 with hj | hj | hj | hj
    · have e := bitV0_W h0 hj
      exact step_run (fr_o0 a i r (i - 1) r) (ps_cons (decide_eq_true h0) (ps_cons (tm0 h0) (ps_cons (ht hj) (ps_cons ⟨⟨_, rfl⟩, ⟨_, e⟩⟩ (ps_cons (P2_W _ _) (ps_cons (by rw [e, er, ep, et]; exact hin) (ps_cons (by rw [hw]) (ps_cons rfl (ps_cons rfl (ps_cons rfl (ps_cons rfl (ps_cons rfl (ps_cons rfl ps_nil))))))))))))) rfl fin
    · have e := bitV1_W h0 hj
      exact step_run (fr_o1 a i r (i - 1) r) (ps_cons (decide_eq_true h0) (ps_cons (tm0 h0) (ps_cons (ht hj) (ps_cons ⟨⟨_, rfl⟩, ⟨_, e⟩⟩ (ps_cons (P2_W _ _) (ps_cons (by rw [e, er, ep, et]; exact hin) (ps_cons (by rw [hw]) (ps_cons rfl (ps_cons rfl (ps_cons rfl (ps_cons rfl (ps_cons rfl (ps_cons rfl ps_nil))))))))))))) rfl fin
    · have e := bitV2_W h0 hj
      exact step_run (fr_o2 a i r (i - 1) r) (ps_cons (decide_eq_true h0) (ps_cons (tm0 h0) (ps_cons (ht hj) (ps_cons ⟨⟨_, rfl⟩, ⟨_, e⟩⟩ (ps_cons (P2_W _ _) (ps_cons (by rw [e, er, ep, et]; exact hin) (ps_cons (by rw [hw]) (ps_cons rfl (ps_cons rfl (ps_cons rfl (ps_cons rfl (ps_cons rfl (ps_cons rfl ps_nil))))))))))))) rfl fin
    · have e := bitV3_W h0 hj
      exact step_run (fr_o3 a i r (i - 1) r) (ps_cons (decide_eq_true h0) (ps_cons (tm0 h0) (ps_cons (ht hj) (ps_cons ⟨⟨_, rfl⟩, ⟨_, e⟩⟩ (ps_cons (P2_W _ _) (ps_cons (by rw [e, er, ep, et]; exact hin) (ps_cons (by rw [hw]) (ps_cons rfl (ps_cons rfl (ps_cons rfl (ps_cons rfl (ps_cons rfl (ps_cons rfl ps_nil))))))))))))) rfl fin
   | true =>
    have hin : (!(!inRB ((r + 2 ^ i.toNat) * (r + 2 ^ i.toNat)))) = true := by rw [hi]; rfl
    have es : tI (W ((r + 2 ^ i.toNat) * (r + 2 ^ i.toNat))) = (r + 2 ^ i.toNat) * (r + 2 ^ i.toNat) := tI_in (inRB_iff.1 hi)
    rcases up with up | hno
    · have hc : (decide (cmp3 ((r + 2 ^ i.toNat) * (r + 2 ^ i.toNat)) a ≤ 0)) = true := decide_eq_true (by have := up.2.2.2.1; simp only at this; unfold cmp3; omega)
      have fin : ∀ S1, Keeps S1 (fs a (i - 1) (r + 2 ^ i.toNat)) → (Out.normal = .normal ∧ ∃ g', fInv a g' ∧ (g'.1 + 1).toNat < (i + 1).toNat ∧ Keeps S1 (fs a g'.1 g'.2)) ∨ (Out.normal = .exit 0 ∧ Keeps S1 (fz a (rt a))) :=
       fun S1 hk => .inl ⟨rfl, (i - 1, r + 2 ^ i.toNat), up, mu, hk⟩
      rcases h4 with hj | hj | hj | hj
      · have e := bitV0_W h0 hj
        exact step_run (fr_u0 a i r (i - 1) (r + 2 ^ i.toNat)) (ps_cons (decide_eq_true h0) (ps_cons (tm0 h0) (ps_cons (ht hj) (ps_cons ⟨⟨_, rfl⟩, ⟨_, e⟩⟩ (ps_cons (P2_W _ _) (ps_cons (by rw [e, er, ep, et]; exact hin) (ps_cons (P2_W _ _) (ps_cons (by rw [e, er, ep, et, es, ea]; exact hc) (ps_cons (by rw [hw]) (ps_cons rfl (ps_cons rfl (ps_cons rfl (ps_cons (by rw [e, er, ep]) (ps_cons rfl (ps_cons rfl ps_nil))))))))))))))) rfl fin
      · have e := bitV1_W h0 hj
        exact step_run (fr_u1 a i r (i - 1) (r + 2 ^ i.toNat)) (ps_cons (decide_eq_true h0) (ps_cons (tm0 h0) (ps_cons (ht hj) (ps_cons ⟨⟨_, rfl⟩, ⟨_, e⟩⟩ (ps_cons (P2_W _ _) (ps_cons (by rw [e, er, ep, et]; exact hin) (ps_cons (P2_W _ _) (ps_cons (by rw [e, er, ep, et, es, ea]; exact hc) (ps_cons (by rw [hw]) (ps_cons rfl (ps_cons rfl (ps_cons rfl (ps_cons (by rw [e, er, ep]) (ps_cons rfl (ps_cons rfl ps_nil))))))))))))))) rfl fin
      · have e := bitV2_W h0 hj
        exact step_run (fr_u2 a i r (i - 1) (r + 2 ^ i.toNat)) (ps_cons (decide_eq_true h0) (ps_cons (tm0 h0) (ps_cons (ht hj) (ps_cons ⟨⟨_, rfl⟩, ⟨_, e⟩⟩ (ps_cons (P2_W _ _) (ps_cons (by rw [e, er, ep, et]; exact hin) (ps_cons (P2_W _ _) (ps_cons (by rw [e, er, ep, et, es, ea]; exact hc) (ps_cons (by rw [hw]) (ps_cons rfl (ps_cons rfl (ps_cons rfl (ps_cons (by rw [e, er, ep]) (ps_cons rfl (ps_cons rfl ps_nil))))))))))))))) rfl fin
      · have e := bitV3_W h0 hj
        exact step_run (fr_u3 a i r (i - 1) (r + 2 ^ i.toNat)) (ps_cons (decide_eq_true h0) (ps_cons (tm0 h0) (ps_cons (ht hj) (ps_cons ⟨⟨_, rfl⟩, ⟨_, e⟩⟩ (ps_cons (P2_W _ _) (ps_cons (by rw [e, er, ep, et]; exact hin) (ps_cons (P2_W _ _) (ps_cons (by rw [e, er, ep, et, es, ea]; exact hc) (ps_cons (by rw [hw]) (ps_cons rfl (ps_cons rfl (ps_cons rfl (ps_cons (by rw [e, er, ep]) (ps_cons rfl (ps_cons rfl ps_nil))))))))))))))) rfl fin
    · have hc : (decide (cmp3 ((r + 2 ^ i.toNat) * (r + 2 ^ i.toNat)) a ≤ 0)) = false := decide_eq_false (by unfold cmp3; omega)
      have fin : ∀ S1, Keeps S1 (fs a (i - 1) r) → (Out.normal = .normal ∧ ∃ g', fInv a g' ∧ (g'.1 + 1).toNat < (i + 1).toNat ∧ Keeps S1 (fs a g'.1 g'.2)) ∨ (Out.normal = .exit 0 ∧ Keeps S1 (fz a (rt a))) :=
       fun S1 hk => .inl ⟨rfl, (i - 1, r), keep hno, mu, hk⟩
      rcases h4 with hj | hj | hj | hj
      · have e := bitV0_W h0 hj
        exact step_run (fr_g0 a i r (i - 1) r) (ps_cons (decide_eq_true h0) (ps_cons (tm0 h0) (ps_cons (ht hj) (ps_cons ⟨⟨_, rfl⟩, ⟨_, e⟩⟩ (ps_cons (P2_W _ _) (ps_cons (by rw [e, er, ep, et]; exact hin) (ps_cons (P2_W _ _) (ps_cons (by rw [e, er, ep, et, es, ea]; exact hc) (ps_cons (by rw [hw]) (ps_cons rfl (ps_cons rfl (ps_cons rfl (ps_cons rfl (ps_cons rfl (ps_cons rfl ps_nil))))))))))))))) rfl fin
      · have e := bitV1_W h0 hj
        exact step_run (fr_g1 a i r (i - 1) r) (ps_cons (decide_eq_true h0) (ps_cons (tm0 h0) (ps_cons (ht hj) (ps_cons ⟨⟨_, rfl⟩, ⟨_, e⟩⟩ (ps_cons (P2_W _ _) (ps_cons (by rw [e, er, ep, et]; exact hin) (ps_cons (P2_W _ _) (ps_cons (by rw [e, er, ep, et, es, ea]; exact hc) (ps_cons (by rw [hw]) (ps_cons rfl (ps_cons rfl (ps_cons rfl (ps_cons rfl (ps_cons rfl (ps_cons rfl ps_nil))))))))))))))) rfl fin
      · have e := bitV2_W h0 hj
        exact step_run (fr_g2 a i r (i - 1) r) (ps_cons (decide_eq_true h0) (ps_cons (tm0 h0) (ps_cons (ht hj) (ps_cons ⟨⟨_, rfl⟩, ⟨_, e⟩⟩ (ps_cons (P2_W _ _) (ps_cons (by rw [e, er, ep, et]; exact hin) (ps_cons (P2_W _ _) (ps_cons (by rw [e, er, ep, et, es, ea]; exact hc) (ps_cons (by rw [hw]) (ps_cons rfl (ps_cons rfl (ps_cons rfl (ps_cons rfl (ps_cons rfl (ps_cons rfl ps_nil))))))))))))))) rfl fin
      · have e := bitV3_W h0 hj
        exact step_run (fr_g3 a i r (i - 1) r) (ps_cons (decide_eq_true h0) (ps_cons (tm0 h0) (ps_cons (ht hj) (ps_cons ⟨⟨_, rfl⟩, ⟨_, e⟩⟩ (ps_cons (P2_W _ _) (ps_cons (by rw [e, er, ep, et]; exact hin) (ps_cons (P2_W _ _) (ps_cons (by rw [e, er, ep, et, es, ea]; exact hc) (ps_cons (by rw [hw]) (ps_cons rfl (ps_cons rfl (ps_cons rfl (ps_cons rfl (ps_cons rfl (ps_cons rfl ps_nil))))))))))))))) rfl fin
 · have e0 : (i + 1).toNat = 0 := by omega
   rw [e0, Int.pow_zero] at r2
   have e : r = rt a := IsRt.unique ⟨r0, r1, r2⟩ (rt_is ha.1 ha.2)
   subst e
   exact step_run (fr_x a i _ _) (ps_cons (decide_eq_false h0) (ps_cons rfl (ps_cons rfl (ps_cons rfl (ps_cons rfl (ps_cons rfl (ps_cons rfl ps_nil))))))) rfl fun S1 hk => .inr ⟨rfl, hk⟩
noncomputable def fLoop (a : Int) (ha : 0 ≤ a ∧ a < HH) (g0 : Int × Int) (h0 : fInv a g0) : CodeC P :=
 loopC mo RF (by rfl) 3 21 fb [12, 8, 1, 0] (fun g : Int × Int => fs a g.1 g.2) (fInv a) (fun g => (g.1 + 1).toNat) (.exit 0) (fz a (rt a)) (by simp) (fun _ => rfl) rfl (fun _ => by kernel_rfl) (by kernel_rfl) [] (fun _ => rfl) rfl
  (f_step ha) g0 h0
noncomputable def RL (a : Int) (ha : 0 ≤ a ∧ a < HH) (g0 : Int × Int) (h0 : fInv a g0) : Env P := ⟨⟨[most, must] ++ wideC, []⟩, [fLoop a ha g0 h0], 10, []⟩
theorem floor_run (a i : Int) (ha : 0 ≤ a ∧ a < HH) (h0 : fInv a (i, 0)) : runF P (RL a ha (i, 0) h0) 2 119 [W a] (.lit :: (.n 0 :: [])) =
 some (W (rt a), [P1 [W a], mustP [.bool (decide (cmp3 (tI (W a)) 0 ≥ 0)), .int .i64 2], P1 [W a], Code.loop fb = innerOf P 184 0, (.int .i64 (bl (tI (W a) % MM) / 2) : Value) = .int .i64 i, (.yld 12 : SV) = .yld 12, (.ptr 8 0 : SV) = .ptr 8 0, (W a : Value) = W a, (W 0 : Value) = W 0, (W a : Value) = W a, fRec a = fRec a]) := by kernel_rfl
def rtP : List Value → Prop
 | [x] => IsW x ∧ 0 ≤ tI x
 | _ => False
def rtV : List Value → Value
 | [x] => W (rt (tI x))
 | _ => undef
theorem floor_gives (args : List Value) (h : rtP args) : Gives P 119 args.toArray (rtV args) := by
 unfold rtP at h
 split at h
 · rename_i x
   obtain ⟨hx, h1⟩ := h
   obtain ⟨ex, rx⟩ := isW_in hx
   have ha : 0 ≤ tI x ∧ tI x < HH := ⟨h1, rx.2⟩
   have key : ∀ a : Int, 0 ≤ a ∧ a < HH → Gives P 119 #[W a] (W (rt a)) := fun a ha => by
    have ea : tI (W a) = a := tI_in (by unfold InR; omega)
    have em : tI (W a) % MM = a := by rw [ea, Int.emod_eq_of_lt ha.1 (by simp only [MM, HH] at *; omega)]
    have b1 := bl_255 ha.1 ha.2
    have b0 := bl_nonneg a
    have b2 := bl_lt ha.1
    have h0 : fInv a (bl (tI (W a) % MM) / 2, 0) := by
     rw [em]
     refine ⟨by show -1 ≤ bl a / 2; omega, by show bl a / 2 ≤ 127; omega, Int.le_refl _, by simpa using ha.1, ?_⟩
     show a < (0 + 2 ^ (bl a / 2 + 1).toNat) * (0 + 2 ^ (bl a / 2 + 1).toNat)
     rw [Int.zero_add, ← Int.pow_add]
     have : (2 : Int) ^ (bl a).toNat ≤ 2 ^ ((bl a / 2 + 1).toNat + (bl a / 2 + 1).toNat) := pow2_le (by omega)
     omega
    exact gives_of_run mo (floor_run a (bl (tI (W a) % MM) / 2) ha h0) (ps_cons (P1_W _) (ps_cons (show decide _ = true from decide_eq_true (by rw [ea]; unfold cmp3; omega)) (ps_cons (P1_W _) (ps_cons (by kernel_rfl) (ps_cons rfl (ps_cons rfl (ps_cons rfl (ps_cons rfl (ps_cons rfl (ps_cons rfl (ps_cons rfl ps_nil))))))))))) rfl
   have := key (tI x) ha
   rw [← ex] at this
   exact this
 · exact h.elim
noncomputable def floor : Ctr P := ⟨119, rtP, rtV, floor_gives⟩
end Go.Rt
/-
 Contracts of package root, third part: Floor, Ceil. Printed by rtD.py.
-/
namespace Go.Rt
open Go Go.RowKit Go.Sx Go.Nm Go.Wd Go.Qt Go.Proofs
noncomputable def tf : Func := Tryz.f164
noncomputable def tOps : Array Oper := opsOf (codeOf tf)
noncomputable def tRest : Code := restOf (codeOf tf)
noncomputable def toldR : DefC P :=
 recC mo Q0 (by rfl) 1 164 0 3 tf tOps tRest (tOps[0]?.getD default) (by kernel_rfl) (by kernel_rfl) (by kernel_rfl) (of_decide_eq_true (by kernel_rfl)) (by kernel_rfl) (by kernel_rfl) (by kernel_rfl) (of_decide_eq_true (by kernel_rfl)) (by kernel_rfl)
noncomputable def RE : Env P := ⟨⟨wideC, []⟩, [], 10, [toldR]⟩
noncomputable def RG : Env P := ⟨⟨[floor, must] ++ wideC, []⟩, [], 10, [toldR]⟩
theorem Floor_run (a : Int) : runF P RG 3 67 [W a] [] =
 some (.tuple #[W (rt (tI (W a))), .int .i64 0], [rtP [W a]]) := by kernel_rfl
theorem FloorN_run (a : Int) : runF P RE 5 67 [W a] (.b true :: []) =
 some (.tuple #[W 0, .int .i64 2], [P1 [W a], (!(decide (cmp3 (tI (W a)) 0 ≥ 0))) = true]) := by kernel_rfl
theorem CeilE_run (a : Int) : runF P RG 4 69 [W a] (.b false :: []) =
 some (.tuple #[W (rt (tI (W a))), .int .i64 0], [rtP [W a], P2 [W (rt (tI (W a))), W (rt (tI (W a)))], (!(weq (tI (W (rt (tI (W a)))) * tI (W (rt (tI (W a))))) a)) = false]) := by kernel_rfl
theorem CeilU_run (a : Int) : runF P RG 4 69 [W a] (.b true :: []) =
 some (.tuple #[W (tI (W (rt (tI (W a)))) + tI (W 1)), .int .i64 0], [rtP [W a], P2 [W (rt (tI (W a))), W (rt (tI (W a)))], (!(weq (tI (W (rt (tI (W a)))) * tI (W (rt (tI (W a))))) a)) = true, ofP [.int .i64 1], P2 [W (rt (tI (W a))), W 1]]) := by kernel_rfl
theorem CeilN_run (a : Int) : runF P RE 5 69 [W a] (.b true :: []) =
 some (.tuple #[W 0, .int .i64 2], [P1 [W a], (!(decide (cmp3 (tI (W a)) 0 ≥ 0))) = true]) := by kernel_rfl
def rootE (a : Int) : Int := if 0 ≤ a then 0 else 2
def rfV : List Value → Value
 | [x] => .tuple #[W (if 0 ≤ tI x then rt (tI x) else 0), .int .i64 (rootE (tI x))]
 | _ => undef
def rcV : List Value → Value
 | [x] => .tuple #[W (if 0 ≤ tI x then rc (tI x) else 0), .int .i64 (rootE (tI x))]
 | _ => undef
theorem rtP_W {a : Int} (ha : InR a) (h : 0 ≤ a) : rtP [W a] := ⟨⟨_, rfl⟩, by rw [tI_in ha]; exact h⟩
theorem sgn_t {a : Int} (h : ¬ 0 ≤ a) : (!(decide (cmp3 a 0 ≥ 0))) = true := by
 have : ¬ cmp3 a 0 ≥ 0 := by unfold cmp3; omega
 rw [decide_eq_false this]; rfl
theorem Floor_gives (args : List Value) (h : P1 args) : Gives P 67 args.toArray (rfV args) := by
 unfold P1 at h
 split at h
 · rename_i x
   obtain ⟨ex, rx⟩ := isW_in h
   rw [ex]
   generalize tI x = a at *
   have ea : tI (W a) = a := tI_in rx
   show Gives P _ #[W a] (.tuple #[W (if 0 ≤ tI (W a) then rt (tI (W a)) else 0), .int .i64 (rootE (tI (W a)))])
   rw [ea]
   unfold rootE
   by_cases h0 : 0 ≤ a
   · rw [if_pos h0, if_pos h0]
     have R := Floor_run a
     rw [ea] at R
     exact gives_of_run mo R (ps_cons (rtP_W rx h0) ps_nil) rfl
   · rw [if_neg h0, if_neg h0]
     have R := FloorN_run a
     rw [ea] at R
     exact gives_of_run mo R (ps_cons (P1_W _) (ps_cons (sgn_t h0) ps_nil)) rfl
 · exact h.elim
theorem rc_facts {a : Int} (h0 : 0 ≤ a) (rx : InR a) : InR (rt a) ∧ InR (rt a * rt a) ∧ InR (rt a + 1) := by
 obtain ⟨g0, g1, g2⟩ := rt_is h0 rx.2
 have r := rt_range h0 rx.2
 have k128 : (2 : Int) ^ 128 = 340282366920938463463374607431768211456 := by decide
 rw [k128] at r
 have := mul_self_nonneg' (rt a)
 generalize rt a * rt a = z at *
 simp only [InR, HH] at *
 omega
theorem Ceil_gives (args : List Value) (h : P1 args) : Gives P 69 args.toArray (rcV args) := by
 unfold P1 at h
 split at h
 · rename_i x
   obtain ⟨ex, rx⟩ := isW_in h
   rw [ex]
   generalize tI x = a at *
   have ea : tI (W a) = a := tI_in rx
   show Gives P _ #[W a] (.tuple #[W (if 0 ≤ tI (W a) then rc (tI (W a)) else 0), .int .i64 (rootE (tI (W a)))])
   rw [ea]
   unfold rootE
   by_cases h0 : 0 ≤ a
   · rw [if_pos h0, if_pos h0]
     obtain ⟨i1, i2, i3⟩ := rc_facts h0 rx
     have e1 : tI (W (rt a)) = rt a := tI_in i1
     have e2 : tI (W (rt a * rt a)) = rt a * rt a := tI_in i2
     have e3 : tI (W 1) = 1 := tI_in (by unfold InR; decide)
     have e4 : weq (rt a * rt a) a = decide (rt a * rt a = a) := by
      rw [weq_eq, decide_eq_decide]
      simp only [InR, HH, MM] at *
      omega
     unfold rc
     by_cases hq : rt a * rt a = a
     · rw [if_pos hq]
       have R := CeilE_run a
       rw [ea, e1, e4, decide_eq_true hq] at R
       exact gives_of_run mo R (ps_cons (rtP_W rx h0) (ps_cons (P2_W _ _) (ps_cons rfl ps_nil))) rfl
     · rw [if_neg hq]
       have R := CeilU_run a
       rw [ea, e1, e3, e4, decide_eq_false hq] at R
       exact gives_of_run mo R (ps_cons (rtP_W rx h0) (ps_cons (P2_W _ _) (ps_cons rfl (ps_cons ⟨by decide, by decide⟩ (ps_cons (P2_W _ _) ps_nil))))) rfl
   · rw [if_neg h0, if_neg h0]
     have R := CeilN_run a
     rw [ea] at R
     exact gives_of_run mo R (ps_cons (P1_W _) (ps_cons (sgn_t h0) ps_nil)) rfl
 · exact h.elim
noncomputable def cFloor : Ctr P := ⟨67, P1, rfV, Floor_gives⟩
noncomputable def cCeil : Ctr P := ⟨69, P1, rcV, Ceil_gives⟩
noncomputable def rootC : List (Ctr P) := [cFloor, cCeil]
end Go.Rt
