/-
  Contracts of package quot, fifth part: shift. Printed by quotE.py.
-/
import Derived.Test.YtjfcndiodbaejaaDoorQuotD
set_option maxRecDepth 100000
namespace Go.Qt
open Go Go.RowKit Go.Sx Go.Nm Go.Wd Go.Proofs

def shiftP : List Value → Prop
  | [x, .int .i64 n] => IsW x ∧ 0 ≤ n ∧ n < 256
  | _ => False
def shiftV : List Value → Value
  | [x, .int _ n] => W (tI x * 2 ^ n.toNat)
  | _ => undef
theorem tm0 {n : Int} (h : 0 ≤ n) : 0 ≤ n.tmod 64 := by rw [Int.tmod_eq_emod_of_nonneg h]; omega
theorem tm1 {n : Int} (h : 0 ≤ n) : 0 ≤ IntKind.i64.wrap (64 - n.tmod 64) := by
  rw [Int.tmod_eq_emod_of_nonneg h, wrap_i64_in (by omega) (by omega)]
  omega
theorem td {n q : Int} (h : 0 ≤ n) (h2 : n < 256) (hq : n / 64 = q) : IntKind.i64.wrap (n.tdiv 64) = q := by
  rw [Int.tdiv_eq_ediv_of_nonneg h, wrap_i64_in (by omega) (by omega), hq]
theorem shift_bm {a n : Int} (e : Value) (h : e = W (a * 2 ^ n.toNat)) : e = W (tI (W a) * 2 ^ n.toNat) := by
  rw [h, tI_W]
  refine W_congr ?_
  rw [Int.mul_emod, Int.mul_emod (bm a), bm_mod]
theorem shift_run0 (a n : Int) : runF P Q0 1 142 [W a, .int .i64 n] (.lit :: (.lit :: (.b true :: (.n 0 :: (.lit :: (.b false :: (.lit :: (.b true :: (.n 1 :: (.lit :: (.b true :: (.lit :: (.n 0 :: (.lit :: (.lit :: (.b true :: (.n 2 :: (.lit :: (.b true :: (.lit :: (.n 1 :: (.lit :: (.lit :: (.b true :: (.n 3 :: (.lit :: (.b true :: (.lit :: (.n 2 :: []))))))))))))))))))))))))))))) =
  some (.agg #[.int .u64 (lo (w0 a) n), .int .u64 (orW (w1 a) (w0 a) n), .int .u64 (orW (w2 a) (w1 a) n), .int .u64 (orW (w3 a) (w2 a) n)],
    [(decide (IntKind.i64.wrap (0 - (IntKind.i64.wrap (n.tdiv 64))) ≥ 0)) = true,
     IntKind.i64.wrap (0 - (IntKind.i64.wrap (n.tdiv 64))) = 0,
     0 ≤ n.tmod 64,
     (decide (IntKind.i64.wrap (0 - (IntKind.i64.wrap (n.tdiv 64))) > 0)) = false,
     (decide (IntKind.i64.wrap (1 - (IntKind.i64.wrap (n.tdiv 64))) ≥ 0)) = true,
     IntKind.i64.wrap (1 - (IntKind.i64.wrap (n.tdiv 64))) = 1,
     0 ≤ n.tmod 64,
     (decide (IntKind.i64.wrap (1 - (IntKind.i64.wrap (n.tdiv 64))) > 0)) = true,
     IntKind.i64.wrap (IntKind.i64.wrap (1 - (IntKind.i64.wrap (n.tdiv 64))) - 1) = 0,
     0 ≤ IntKind.i64.wrap (64 - (n.tmod 64)),
     (decide (IntKind.i64.wrap (2 - (IntKind.i64.wrap (n.tdiv 64))) ≥ 0)) = true,
     IntKind.i64.wrap (2 - (IntKind.i64.wrap (n.tdiv 64))) = 2,
     0 ≤ n.tmod 64,
     (decide (IntKind.i64.wrap (2 - (IntKind.i64.wrap (n.tdiv 64))) > 0)) = true,
     IntKind.i64.wrap (IntKind.i64.wrap (2 - (IntKind.i64.wrap (n.tdiv 64))) - 1) = 1,
     0 ≤ IntKind.i64.wrap (64 - (n.tmod 64)),
     (decide (IntKind.i64.wrap (3 - (IntKind.i64.wrap (n.tdiv 64))) ≥ 0)) = true,
     IntKind.i64.wrap (3 - (IntKind.i64.wrap (n.tdiv 64))) = 3,
     0 ≤ n.tmod 64,
     (decide (IntKind.i64.wrap (3 - (IntKind.i64.wrap (n.tdiv 64))) > 0)) = true,
     IntKind.i64.wrap (IntKind.i64.wrap (3 - (IntKind.i64.wrap (n.tdiv 64))) - 1) = 2,
     0 ≤ IntKind.i64.wrap (64 - (n.tmod 64))]) := by kernel_rfl
theorem shift_go0 (a n : Int) (h0 : 0 ≤ n) (h1 : n < 256) (hq : n / 64 = 0) : Gives P 142 #[W a, .int .i64 n] (shiftV [W a, .int .i64 n]) := by
  have e := td h0 h1 hq
  exact gives_of_run mo (shift_run0 a n) (ps_cons (by rw [e]; decide) (ps_cons (by rw [e]; decide) (ps_cons (tm0 h0) (ps_cons (by rw [e]; decide) (ps_cons (by rw [e]; decide) (ps_cons (by rw [e]; decide) (ps_cons (tm0 h0) (ps_cons (by rw [e]; decide) (ps_cons (by rw [e]; decide) (ps_cons (tm1 h0) (ps_cons (by rw [e]; decide) (ps_cons (by rw [e]; decide) (ps_cons (tm0 h0) (ps_cons (by rw [e]; decide) (ps_cons (by rw [e]; decide) (ps_cons (tm1 h0) (ps_cons (by rw [e]; decide) (ps_cons (by rw [e]; decide) (ps_cons (tm0 h0) (ps_cons (by rw [e]; decide) (ps_cons (by rw [e]; decide) (ps_cons (tm1 h0) ps_nil)))))))))))))))))))))) (shift_bm _ (shift_W0 h0 hq))
theorem shift_run1 (a n : Int) : runF P Q0 1 142 [W a, .int .i64 n] (.lit :: (.lit :: (.b false :: (.lit :: (.b true :: (.n 0 :: (.lit :: (.b false :: (.lit :: (.b true :: (.n 1 :: (.lit :: (.b true :: (.lit :: (.n 0 :: (.lit :: (.lit :: (.b true :: (.n 2 :: (.lit :: (.b true :: (.lit :: (.n 1 :: []))))))))))))))))))))))) =
  some (.agg #[.int .u64 0, .int .u64 (lo (w0 a) n), .int .u64 (orW (w1 a) (w0 a) n), .int .u64 (orW (w2 a) (w1 a) n)],
    [(decide (IntKind.i64.wrap (0 - (IntKind.i64.wrap (n.tdiv 64))) ≥ 0)) = false,
     (decide (IntKind.i64.wrap (1 - (IntKind.i64.wrap (n.tdiv 64))) ≥ 0)) = true,
     IntKind.i64.wrap (1 - (IntKind.i64.wrap (n.tdiv 64))) = 0,
     0 ≤ n.tmod 64,
     (decide (IntKind.i64.wrap (1 - (IntKind.i64.wrap (n.tdiv 64))) > 0)) = false,
     (decide (IntKind.i64.wrap (2 - (IntKind.i64.wrap (n.tdiv 64))) ≥ 0)) = true,
     IntKind.i64.wrap (2 - (IntKind.i64.wrap (n.tdiv 64))) = 1,
     0 ≤ n.tmod 64,
     (decide (IntKind.i64.wrap (2 - (IntKind.i64.wrap (n.tdiv 64))) > 0)) = true,
     IntKind.i64.wrap (IntKind.i64.wrap (2 - (IntKind.i64.wrap (n.tdiv 64))) - 1) = 0,
     0 ≤ IntKind.i64.wrap (64 - (n.tmod 64)),
     (decide (IntKind.i64.wrap (3 - (IntKind.i64.wrap (n.tdiv 64))) ≥ 0)) = true,
     IntKind.i64.wrap (3 - (IntKind.i64.wrap (n.tdiv 64))) = 2,
     0 ≤ n.tmod 64,
     (decide (IntKind.i64.wrap (3 - (IntKind.i64.wrap (n.tdiv 64))) > 0)) = true,
     IntKind.i64.wrap (IntKind.i64.wrap (3 - (IntKind.i64.wrap (n.tdiv 64))) - 1) = 1,
     0 ≤ IntKind.i64.wrap (64 - (n.tmod 64))]) := by kernel_rfl
theorem shift_go1 (a n : Int) (h0 : 0 ≤ n) (h1 : n < 256) (hq : n / 64 = 1) : Gives P 142 #[W a, .int .i64 n] (shiftV [W a, .int .i64 n]) := by
  have e := td h0 h1 hq
  exact gives_of_run mo (shift_run1 a n) (ps_cons (by rw [e]; decide) (ps_cons (by rw [e]; decide) (ps_cons (by rw [e]; decide) (ps_cons (tm0 h0) (ps_cons (by rw [e]; decide) (ps_cons (by rw [e]; decide) (ps_cons (by rw [e]; decide) (ps_cons (tm0 h0) (ps_cons (by rw [e]; decide) (ps_cons (by rw [e]; decide) (ps_cons (tm1 h0) (ps_cons (by rw [e]; decide) (ps_cons (by rw [e]; decide) (ps_cons (tm0 h0) (ps_cons (by rw [e]; decide) (ps_cons (by rw [e]; decide) (ps_cons (tm1 h0) ps_nil))))))))))))))))) (shift_bm _ (shift_W1 h0 hq))
theorem shift_run2 (a n : Int) : runF P Q0 1 142 [W a, .int .i64 n] (.lit :: (.lit :: (.b false :: (.lit :: (.b false :: (.lit :: (.b true :: (.n 0 :: (.lit :: (.b false :: (.lit :: (.b true :: (.n 1 :: (.lit :: (.b true :: (.lit :: (.n 0 :: []))))))))))))))))) =
  some (.agg #[.int .u64 0, .int .u64 0, .int .u64 (lo (w0 a) n), .int .u64 (orW (w1 a) (w0 a) n)],
    [(decide (IntKind.i64.wrap (0 - (IntKind.i64.wrap (n.tdiv 64))) ≥ 0)) = false,
     (decide (IntKind.i64.wrap (1 - (IntKind.i64.wrap (n.tdiv 64))) ≥ 0)) = false,
     (decide (IntKind.i64.wrap (2 - (IntKind.i64.wrap (n.tdiv 64))) ≥ 0)) = true,
     IntKind.i64.wrap (2 - (IntKind.i64.wrap (n.tdiv 64))) = 0,
     0 ≤ n.tmod 64,
     (decide (IntKind.i64.wrap (2 - (IntKind.i64.wrap (n.tdiv 64))) > 0)) = false,
     (decide (IntKind.i64.wrap (3 - (IntKind.i64.wrap (n.tdiv 64))) ≥ 0)) = true,
     IntKind.i64.wrap (3 - (IntKind.i64.wrap (n.tdiv 64))) = 1,
     0 ≤ n.tmod 64,
     (decide (IntKind.i64.wrap (3 - (IntKind.i64.wrap (n.tdiv 64))) > 0)) = true,
     IntKind.i64.wrap (IntKind.i64.wrap (3 - (IntKind.i64.wrap (n.tdiv 64))) - 1) = 0,
     0 ≤ IntKind.i64.wrap (64 - (n.tmod 64))]) := by kernel_rfl
theorem shift_go2 (a n : Int) (h0 : 0 ≤ n) (h1 : n < 256) (hq : n / 64 = 2) : Gives P 142 #[W a, .int .i64 n] (shiftV [W a, .int .i64 n]) := by
  have e := td h0 h1 hq
  exact gives_of_run mo (shift_run2 a n) (ps_cons (by rw [e]; decide) (ps_cons (by rw [e]; decide) (ps_cons (by rw [e]; decide) (ps_cons (by rw [e]; decide) (ps_cons (tm0 h0) (ps_cons (by rw [e]; decide) (ps_cons (by rw [e]; decide) (ps_cons (by rw [e]; decide) (ps_cons (tm0 h0) (ps_cons (by rw [e]; decide) (ps_cons (by rw [e]; decide) (ps_cons (tm1 h0) ps_nil)))))))))))) (shift_bm _ (shift_W2 h0 hq))
theorem shift_run3 (a n : Int) : runF P Q0 1 142 [W a, .int .i64 n] (.lit :: (.lit :: (.b false :: (.lit :: (.b false :: (.lit :: (.b false :: (.lit :: (.b true :: (.n 0 :: (.lit :: (.b false :: [])))))))))))) =
  some (.agg #[.int .u64 0, .int .u64 0, .int .u64 0, .int .u64 (lo (w0 a) n)],
    [(decide (IntKind.i64.wrap (0 - (IntKind.i64.wrap (n.tdiv 64))) ≥ 0)) = false,
     (decide (IntKind.i64.wrap (1 - (IntKind.i64.wrap (n.tdiv 64))) ≥ 0)) = false,
     (decide (IntKind.i64.wrap (2 - (IntKind.i64.wrap (n.tdiv 64))) ≥ 0)) = false,
     (decide (IntKind.i64.wrap (3 - (IntKind.i64.wrap (n.tdiv 64))) ≥ 0)) = true,
     IntKind.i64.wrap (3 - (IntKind.i64.wrap (n.tdiv 64))) = 0,
     0 ≤ n.tmod 64,
     (decide (IntKind.i64.wrap (3 - (IntKind.i64.wrap (n.tdiv 64))) > 0)) = false]) := by kernel_rfl
theorem shift_go3 (a n : Int) (h0 : 0 ≤ n) (h1 : n < 256) (hq : n / 64 = 3) : Gives P 142 #[W a, .int .i64 n] (shiftV [W a, .int .i64 n]) := by
  have e := td h0 h1 hq
  exact gives_of_run mo (shift_run3 a n) (ps_cons (by rw [e]; decide) (ps_cons (by rw [e]; decide) (ps_cons (by rw [e]; decide) (ps_cons (by rw [e]; decide) (ps_cons (by rw [e]; decide) (ps_cons (tm0 h0) (ps_cons (by rw [e]; decide) ps_nil))))))) (shift_bm _ (shift_W3 h0 hq))
theorem shift_gives (args : List Value) (h : shiftP args) : Gives P 142 args.toArray (shiftV args) := by
  unfold shiftP at h
  split at h
  · rename_i x n
    obtain ⟨⟨a, rfl⟩, h0, h1⟩ := h
    have hq : n / 64 = 0 ∨ n / 64 = 1 ∨ n / 64 = 2 ∨ n / 64 = 3 := by omega
    rcases hq with hq | hq | hq | hq
    · exact shift_go0 a n h0 h1 hq
    · exact shift_go1 a n h0 h1 hq
    · exact shift_go2 a n h0 h1 hq
    · exact shift_go3 a n h0 h1 hq
  · exact h.elim
noncomputable def shift : Ctr P := ⟨142, shiftP, shiftV, shift_gives⟩
end Go.Qt
