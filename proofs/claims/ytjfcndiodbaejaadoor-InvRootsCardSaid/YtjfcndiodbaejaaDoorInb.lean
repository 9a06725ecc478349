/-
  Laws of chapter 6: wakes, in, times. Printed by inD.py.
-/
import Derived.Test.YtjfcndiodbaejaaDoorIna
import Derived.Test.YtjfcndiodbaejaaDoorRf5
set_option maxRecDepth 100000
namespace Go.Nv
open Go Go.RowKit Go.Sx Go.Nm Go.Wd Go.Qt Go.Iv Go.Rt Go.Proofs

/-! ### in -/
def inV (a : Iv) (n : Int) : Int := a.lo + n % (a.hi - a.lo + 1)
def inP : List Value → Prop
  | [x, .int .i64 n] => (∃ a, x = I a ∧ fine a = true) ∧ I64 n
  | _ => False
def inVal : List Value → Value
  | [x, .int _ n] => .int .i64 (inV (rd x) n)
  | _ => undef
theorem in_math {n w : Int} (hw : 1 ≤ w) (hw2 : w ≤ 2305843009213693953) : IntKind.i64.wrap (n.tmod w + w) = n.tmod w + w ∧ (n.tmod w + w).tmod w = n % w := by
  have h1 := Int.tmod_lt_of_pos n (show 0 < w by omega)
  have h2 : -w < n.tmod w := by
    have := Int.lt_tmod_of_pos n (show 0 < w by omega)
    omega
  refine ⟨wr (by omega) (by omega), ?_⟩
  rw [Int.tmod_eq_emod_of_nonneg (by omega), Int.add_emod_right]
  have e := Int.mul_tdiv_add_tmod n w
  conv => rhs; rw [← e]
  rw [Int.add_comm, Int.add_mul_emod_self_left]
theorem in0_run (a : Iv) (n : Int) : runF P V0 1 30 [I a, .int .i64 n] [] =
  some (.int .i64 (IntKind.i64.wrap (a.lo + ((IntKind.i64.wrap (n.tmod (IntKind.i64.wrap (IntKind.i64.wrap (a.hi - a.lo) + 1)) + (IntKind.i64.wrap (IntKind.i64.wrap (a.hi - a.lo) + 1)))).tmod (IntKind.i64.wrap (IntKind.i64.wrap (a.hi - a.lo) + 1))))),
    [IntKind.i64.wrap (IntKind.i64.wrap (a.hi - a.lo) + 1) ≠ 0,
     IntKind.i64.wrap (IntKind.i64.wrap (a.hi - a.lo) + 1) ≠ 0]) := by kernel_rfl
theorem in0_leaf (a : Iv) (n : Int) (hf : fine a = true) : Gives P 30 #[I a, .int .i64 n] (.int .i64 (inV a n)) := by
  obtain ⟨_, h1, h2, h3⟩ := fine_iff.1 hf
  have w1 : IntKind.i64.wrap (a.hi - a.lo) = a.hi - a.lo := wr (by omega) (by omega)
  have w2 : IntKind.i64.wrap (a.hi - a.lo + 1) = a.hi - a.lo + 1 := wr (by omega) (by omega)
  have w3 := in_math (n := n) (w := a.hi - a.lo + 1) (by omega) (by omega)
  have r1 := Int.emod_nonneg n (show a.hi - a.lo + 1 ≠ 0 by omega)
  have r2 := Int.emod_lt_of_pos n (show 0 < a.hi - a.lo + 1 by omega)
  have w4 : IntKind.i64.wrap (a.lo + n % (a.hi - a.lo + 1)) = inV a n := wr (by omega) (by omega)
  have R := in0_run a n
  refine gives_of_run mo R (ps_cons (by rw [w1, w2]; omega) (ps_cons (by rw [w1, w2]; omega) ps_nil)) ?_
  rw [w1, w2, w3.1, w3.2, w4]
theorem in_gives (args : List Value) (h : inP args) : Gives P 30 args.toArray (inVal args) := by
  unfold inP at h
  split at h
  · rename_i n
    obtain ⟨⟨a, rfl, hf⟩, _⟩ := h
    exact in0_leaf a n hf
  · exact h.elim
noncomputable def cIn : Ctr P := ⟨30, inP, inVal, in_gives⟩
theorem in_in {a : Iv} (n : Int) (h : fine a = true) : a.lo ≤ inV a n ∧ inV a n ≤ a.hi := by
  obtain ⟨_, h1, h2, h3⟩ := fine_iff.1 h
  have r1 := Int.emod_nonneg n (show a.hi - a.lo + 1 ≠ 0 by omega)
  have r2 := Int.emod_lt_of_pos n (show 0 < a.hi - a.lo + 1 by omega)
  unfold inV
  omega

def wakesP : List Value → Prop
  | [] => True
  | _ => False
def wakesV : List Value → Value := fun _ => .bool true
/-! ### times -/
def ints (l : List Int) : DV := .row ⟨3, 1, l.length, fun j => (l.map fun x => Value.int .i64 x).getD (0 + j) undef, false⟩
def prodF : Int → List Int → Int
  | p, [] => p
  | p, x :: l => prodF (p * x) l
def prodL (l : List Int) : Int := prodF 1 l
def iv : Value → Int
  | .int _ x => x
  | _ => 0
def rowZ : Nat → (Nat → Value) → List Int
  | 0, _ => []
  | n + 1, el => iv (el 0) :: rowZ n fun j => el (j + 1)
def timesP (ds : List DV) : Prop := (∃ x y, ds = [ints [x, y]] ∧ I64 x ∧ I64 y) ∨ ∃ x y z u v, ds = [ints [x, y, z, u, v]] ∧ I64 x ∧ I64 y ∧ I64 z ∧ I64 u ∧ I64 v
def tmsV : List DV → Value
  | [.row q] => W (prodL (rowZ q.n q.el))
  | _ => undef
theorem W_mul (p : Int) {x : Int} (h : I64 x) : W (tI (W p) * tI (W x)) = W (p * x) := by
  rw [tI_in (i64_in h), tI_W]
  refine W_congr ?_
  have e := bm_mod p
  rw [Int.mul_emod, e, ← Int.mul_emod]
noncomputable def TM : Env P := ⟨⟨Rd.refC, []⟩, [], 10, []⟩
theorem times2_run (x0 x1 : Int) : runD P TM 1 31 [ints [x0, x1]] [] =
  some (W (tI (W (tI (W 1) * tI (W x0))) * tI (W x1)),
    [ofP [.int .i64 1],
     0 < 2,
     0 < 2,
     ofP [.int .i64 x0],
     P2 [W 1, W x0],
     1 < 2,
     1 < 2,
     ofP [.int .i64 x1],
     P2 [W (tI (W 1) * tI (W x0)), W x1]]) := by kernel_rfl
theorem times2_leaf (x0 x1 : Int) (h0 : I64 x0) (h1 : I64 x1) : GivesD P 31 [ints [x0, x1]] (W (prodL [x0, x1])) := by
  refine givesD_of_run mo (times2_run x0 x1) (ps_cons ⟨by decide, by decide⟩ (ps_cons (by decide) (ps_cons (by decide) (ps_cons h0 (ps_cons (P2_W _ _) (ps_cons (by decide) (ps_cons (by decide) (ps_cons h1 (ps_cons (P2_W _ _) ps_nil))))))))) ?_
  rw [W_mul _ h0, W_mul _ h1]
  rfl
theorem times5_run (x0 x1 x2 x3 x4 : Int) : runD P TM 1 31 [ints [x0, x1, x2, x3, x4]] [] =
  some (W (tI (W (tI (W (tI (W (tI (W (tI (W 1) * tI (W x0))) * tI (W x1))) * tI (W x2))) * tI (W x3))) * tI (W x4)),
    [ofP [.int .i64 1],
     0 < 5,
     0 < 5,
     ofP [.int .i64 x0],
     P2 [W 1, W x0],
     1 < 5,
     1 < 5,
     ofP [.int .i64 x1],
     P2 [W (tI (W 1) * tI (W x0)), W x1],
     2 < 5,
     2 < 5,
     ofP [.int .i64 x2],
     P2 [W (tI (W (tI (W 1) * tI (W x0))) * tI (W x1)), W x2],
     3 < 5,
     3 < 5,
     ofP [.int .i64 x3],
     P2 [W (tI (W (tI (W (tI (W 1) * tI (W x0))) * tI (W x1))) * tI (W x2)), W x3],
     4 < 5,
     4 < 5,
     ofP [.int .i64 x4],
     P2 [W (tI (W (tI (W (tI (W (tI (W 1) * tI (W x0))) * tI (W x1))) * tI (W x2))) * tI (W x3)), W x4]]) := by kernel_rfl
theorem times5_leaf (x0 x1 x2 x3 x4 : Int) (h0 : I64 x0) (h1 : I64 x1) (h2 : I64 x2) (h3 : I64 x3) (h4 : I64 x4) : GivesD P 31 [ints [x0, x1, x2, x3, x4]] (W (prodL [x0, x1, x2, x3, x4])) := by
  refine givesD_of_run mo (times5_run x0 x1 x2 x3 x4) (ps_cons ⟨by decide, by decide⟩ (ps_cons (by decide) (ps_cons (by decide) (ps_cons h0 (ps_cons (P2_W _ _) (ps_cons (by decide) (ps_cons (by decide) (ps_cons h1 (ps_cons (P2_W _ _) (ps_cons (by decide) (ps_cons (by decide) (ps_cons h2 (ps_cons (P2_W _ _) (ps_cons (by decide) (ps_cons (by decide) (ps_cons h3 (ps_cons (P2_W _ _) (ps_cons (by decide) (ps_cons (by decide) (ps_cons h4 (ps_cons (P2_W _ _) ps_nil))))))))))))))))))))) ?_
  rw [W_mul _ h0, W_mul _ h1, W_mul _ h2, W_mul _ h3, W_mul _ h4]
  rfl
theorem times_gives6 (ds : List DV) (h : timesP ds) : GivesD P 31 ds (tmsV ds) := by
  rcases h with ⟨x, y, rfl, h0, h1⟩ | ⟨x, y, z, u, v, rfl, h0, h1, h2, h3, h4⟩
  · exact times2_leaf x y h0 h1
  · exact times5_leaf x y z u v h0 h1 h2 h3 h4
noncomputable def cTimes6 : CtrD P := ⟨31, timesP, tmsV, times_gives6⟩
noncomputable def EW : Env P := ⟨⟨invC ++ R5.rf5C ++ Rd.refC, [rFine]⟩, [], 10, []⟩
theorem wakes_run : runF P EW 1 29 [] [] = some (.bool true,
    [nP1 [.int .i64 4],
     iP1 [I (ofI 4)],
     iP1 [I (ofI 4)],
     nP1 [.int .i64 1],
     nP1 [.int .i64 3],
     iP2 [I (ofI 1), I (ofI 3)],
     nP1 [.int .i64 (-2)],
     iP1 [I (ofI (-2))],
     iP1 [I (⟨-1, 1, false⟩)],
     iP1 [I (⟨0, 0, false⟩)],
     nP1 [.int .i64 2],
     iP1 [I (⟨-2147483648, 1073741824, false⟩)],
     iP1 [I (⟨-1, 1, false⟩)],
     iP1 [I (⟨-1, 1, false⟩)],
     iP1 [I (⟨0, 0, false⟩)]]) := by kernel_rfl
theorem wakes_gives (args : List Value) (h : wakesP args) : Gives P 29 args.toArray (wakesV args) := by
  unfold wakesP at h
  split at h
  · exact gives_of_run mo wakes_run (ps_cons (by unfold nP1 I64; omega) (ps_cons ⟨_, rfl⟩ (ps_cons ⟨_, rfl⟩ (ps_cons (by unfold nP1 I64; omega) (ps_cons (by unfold nP1 I64; omega) (ps_cons ⟨⟨_, rfl⟩, _, rfl⟩ (ps_cons (by unfold nP1 I64; omega) (ps_cons ⟨_, rfl⟩ (ps_cons ⟨_, rfl⟩ (ps_cons ⟨_, rfl⟩ (ps_cons (by unfold nP1 I64; omega) (ps_cons ⟨_, rfl⟩ (ps_cons ⟨_, rfl⟩ (ps_cons ⟨_, rfl⟩ (ps_cons ⟨_, rfl⟩ ps_nil))))))))))))))) rfl
  · exact h.elim
noncomputable def cWakes : Ctr P := ⟨29, wakesP, wakesV, wakes_gives⟩
noncomputable def EL : Env P := ⟨⟨[cWakes, cIn] ++ invC ++ R5.rf5C ++ Rd.refC, [rFine, cTimes6]⟩, [], 10, []⟩
end Go.Nv

/-
  The laws InvHolds, InvRoots, InvCubes: each comes to true. Printed by inE.py.
-/
namespace Go.Nv
open Go Go.RowKit Go.Sx Go.Nm Go.Wd Go.Qt Go.Iv Go.Rt Go.Proofs

theorem pr2 {x y : Int} (hx : I64 x) (hy : I64 y) : tI (W (prodL [x, y])) = x * y := by
  have e : prodL [x, y] = x * y := by show 1 * x * y = x * y; rw [Int.one_mul]
  rw [e]
  exact tI_in (inR_of (smmul hx hy))
theorem le_c {x y : Int} (h : x ≤ y) : (decide (cmp3 x y ≤ 0)) = true := decide_eq_true (by unfold cmp3; omega)
theorem gt_c {x y : Int} (h : x ≤ y) : (decide (cmp3 x y > 0)) = false := decide_eq_false (by unfold cmp3; omega)
theorem in64 {a : Iv} (n : Int) (h : fine a = true) : I64 (inV a n) := by
  have := in_in n h
  have := fine_iff.1 h
  unfold I64; omega
theorem bd_eq {q : Iv} (h : q = bd) : ((q.lo == 0) && ((q.hi == 0) && (q.bad == true))) = true := by rw [h]; rfl
theorem quot_no {a b : Iv} (h : fineL [a, b] = false) : quotI a b = bd := by unfold quotI; rw [h]; rfl
theorem quot_sg {a b : Iv} (h1 : decide (b.lo ≤ 0) = true) (h2 : decide (b.hi ≥ 0) = true) : quotI a b = bd := by
  have h1 := of_decide_eq_true h1
  have h2 := of_decide_eq_true h2
  unfold quotI
  rw [decide_eq_false (by omega : ¬ b.lo > 0), decide_eq_false (by omega : ¬ b.hi < 0), Bool.or_self, Bool.and_false]
  rfl
structure Hold (a b : Iv) (i k : Int) : Prop where
  l : tI (W (prodL [(quotI a b).lo, inV b k])) = (quotI a b).lo * inV b k
  h : tI (W (prodL [(quotI a b).hi, inV b k])) = (quotI a b).hi * inV b k
  m : tI (W (prodL [inV a i, 1073741824])) = inV a i * 1073741824
  p : 0 < inV b k → (quotI a b).lo * inV b k ≤ inV a i * 1073741824 ∧ inV a i * 1073741824 ≤ (quotI a b).hi * inV b k
  n : inV b k < 0 → (quotI a b).hi * inV b k ≤ inV a i * 1073741824 ∧ inV a i * 1073741824 ≤ (quotI a b).lo * inV b k
  f : fine (quotI a b) = true
  y1 : b.lo ≤ inV b k
  y2 : inV b k ≤ b.hi
theorem hold {a b : Iv} (i k : Int) (h : (quotI a b).bad = false) : Hold a b i k := by
  obtain ⟨fa, fb, _, ff, _⟩ := quot_good h
  obtain ⟨q1, q2⟩ := fine64 ff
  obtain ⟨x1, x2⟩ := in_in i fa
  obtain ⟨y1, y2⟩ := in_in k fb
  have hk := quot_in h x1 x2 y1 y2
  exact ⟨pr2 q1 (in64 k fb), pr2 q2 (in64 k fb), pr2 (in64 i fa) i64one, hk.1, hk.2, ff, y1, y2⟩
theorem ih0_run (a b : Iv) (i k : Int) : runF P EL 1 7 [I a, I b, .int .i64 i, .int .i64 k] (.lit :: (.b false :: (.b true :: (.b true :: (.b true :: []))))) =
  some (.bool true,
    [fineP [ivs [a, b]],
     (!(fineL [a, b])) = false,
     iP2 [I a, I b],
     (decide (b.lo ≤ 0)) = true,
     (decide (b.hi ≥ 0)) = true,
     (((quotI a b).lo == 0) && (((quotI a b).hi == 0) && (((quotI a b).bad) == true))) = true,
     wakesP []]) := by kernel_rfl
theorem ih0_leaf (a b : Iv) (i k : Int) (hi : I64 i) (hk : I64 k) (q0 : (fineL [a, b]) = true) (q1 : (decide (b.lo ≤ 0)) = true) (q2 : (decide (b.hi ≥ 0)) = true) (q3 : (((quotI a b).lo == 0) && (((quotI a b).hi == 0) && (((quotI a b).bad) == true))) = true) : Gives P 7 #[I a, I b, .int .i64 i, .int .i64 k] (.bool true) := by
  have _hi := hi
  have _hk := hk
  have R := ih0_run a b i k
  refine gives_of_run mo R (ps_cons (ivs_ok (by simp)) (ps_cons (neg_f q0) (ps_cons ⟨⟨_, rfl⟩, _, rfl⟩ (ps_cons q1 (ps_cons q2 (ps_cons q3 (ps_cons trivial ps_nil))))))) ?_
  rfl
theorem ih1_run (a b : Iv) (i k : Int) : runF P EL 1 7 [I a, I b, .int .i64 i, .int .i64 k] (.lit :: (.b true :: (.b true :: []))) =
  some (.bool true,
    [fineP [ivs [a, b]],
     (!(fineL [a, b])) = true,
     iP2 [I a, I b],
     ((quotI a b).bad) = true,
     wakesP []]) := by kernel_rfl
theorem ih1_leaf (a b : Iv) (i k : Int) (hi : I64 i) (hk : I64 k) (q0 : (fineL [a, b]) = false) (q1 : ((quotI a b).bad) = true) : Gives P 7 #[I a, I b, .int .i64 i, .int .i64 k] (.bool true) := by
  have _hi := hi
  have _hk := hk
  have R := ih1_run a b i k
  refine gives_of_run mo R (ps_cons (ivs_ok (by simp)) (ps_cons (neg_t q0) (ps_cons ⟨⟨_, rfl⟩, _, rfl⟩ (ps_cons q1 (ps_cons trivial ps_nil))))) ?_
  rfl
theorem ih2_run (a b : Iv) (i k : Int) : runF P EL 1 7 [I a, I b, .int .i64 i, .int .i64 k] (.lit :: (.b false :: (.b false :: (.lit :: (.b true :: (.b true :: [])))))) =
  some (.bool true,
    [fineP [ivs [a, b]],
     (!(fineL [a, b])) = false,
     iP2 [I a, I b],
     (decide (b.lo ≤ 0)) = false,
     ((quotI a b).bad) = true,
     (((quotI a b).lo == 0) && (((quotI a b).hi == 0) && (((quotI a b).bad) == true))) = true,
     wakesP []]) := by kernel_rfl
theorem ih2_leaf (a b : Iv) (i k : Int) (hi : I64 i) (hk : I64 k) (q0 : (fineL [a, b]) = true) (q1 : (decide (b.lo ≤ 0)) = false) (q2 : ((quotI a b).bad) = true) (q3 : (((quotI a b).lo == 0) && (((quotI a b).hi == 0) && (((quotI a b).bad) == true))) = true) : Gives P 7 #[I a, I b, .int .i64 i, .int .i64 k] (.bool true) := by
  have _hi := hi
  have _hk := hk
  have R := ih2_run a b i k
  refine gives_of_run mo R (ps_cons (ivs_ok (by simp)) (ps_cons (neg_f q0) (ps_cons ⟨⟨_, rfl⟩, _, rfl⟩ (ps_cons q1 (ps_cons q2 (ps_cons q3 (ps_cons trivial ps_nil))))))) ?_
  rfl
theorem ih3_run (a b : Iv) (i k : Int) : runF P EL 1 7 [I a, I b, .int .i64 i, .int .i64 k] (.lit :: (.b false :: (.b false :: (.lit :: (.b false :: (.lit :: (.lit :: (.lit :: (.b false :: (.lit :: (.b true :: (.b true :: (.b true :: []))))))))))))) =
  some (.bool true,
    [fineP [ivs [a, b]],
     (!(fineL [a, b])) = false,
     iP2 [I a, I b],
     (decide (b.lo ≤ 0)) = false,
     ((quotI a b).bad) = false,
     inP [I a, .int .i64 i],
     inP [I b, .int .i64 k],
     timesP [ints [(quotI a b).lo, inV b k]],
     timesP [ints [inV a i, 1073741824]],
     timesP [ints [(quotI a b).hi, inV b k]],
     (decide (inV b k < 0)) = false,
     fineP [ivs [quotI a b]],
     (fineL [quotI a b]) = true,
     P2 [W (prodL [(quotI a b).lo, inV b k]), W (prodL [inV a i, 1073741824])],
     (decide (cmp3 (tI (W (prodL [(quotI a b).lo, inV b k]))) (tI (W (prodL [inV a i, 1073741824]))) ≤ 0)) = true,
     P2 [W (prodL [inV a i, 1073741824]), W (prodL [(quotI a b).hi, inV b k])],
     (decide (cmp3 (tI (W (prodL [inV a i, 1073741824]))) (tI (W (prodL [(quotI a b).hi, inV b k]))) ≤ 0)) = true,
     wakesP []]) := by kernel_rfl
theorem ih3_leaf (a b : Iv) (i k : Int) (hi : I64 i) (hk : I64 k) (q0 : (fineL [a, b]) = true) (q1 : (decide (b.lo ≤ 0)) = false) (q2 : ((quotI a b).bad) = false) (q3 : (decide (inV b k < 0)) = false) (q4 : (fineL [quotI a b]) = true) (q5 : (decide (cmp3 (tI (W (prodL [(quotI a b).lo, inV b k]))) (tI (W (prodL [inV a i, 1073741824]))) ≤ 0)) = true) (q6 : (decide (cmp3 (tI (W (prodL [inV a i, 1073741824]))) (tI (W (prodL [(quotI a b).hi, inV b k]))) ≤ 0)) = true) : Gives P 7 #[I a, I b, .int .i64 i, .int .i64 k] (.bool true) := by
  have _hi := hi
  have _hk := hk
  have R := ih3_run a b i k
  refine gives_of_run mo R (ps_cons (ivs_ok (by simp)) (ps_cons (neg_f q0) (ps_cons ⟨⟨_, rfl⟩, _, rfl⟩ (ps_cons q1 (ps_cons q2 (ps_cons ⟨⟨_, rfl, (fine2.1 q0).1⟩, hi⟩ (ps_cons ⟨⟨_, rfl, (fine2.1 q0).2⟩, hk⟩ (ps_cons (.inl ⟨_, _, rfl, (fine64 (quot_good q2).2.2.2.1).1, in64 k (fine2.1 q0).2⟩) (ps_cons (.inl ⟨_, _, rfl, in64 i (fine2.1 q0).1, i64one⟩) (ps_cons (.inl ⟨_, _, rfl, (fine64 (quot_good q2).2.2.2.1).2, in64 k (fine2.1 q0).2⟩) (ps_cons q3 (ps_cons (ivs_ok (by simp)) (ps_cons q4 (ps_cons (P2_W _ _) (ps_cons q5 (ps_cons (P2_W _ _) (ps_cons q6 (ps_cons trivial ps_nil)))))))))))))))))) ?_
  rfl
theorem ih4_run (a b : Iv) (i k : Int) : runF P EL 1 7 [I a, I b, .int .i64 i, .int .i64 k] (.lit :: (.b false :: (.b true :: (.b false :: (.b true :: (.b true :: [])))))) =
  some (.bool true,
    [fineP [ivs [a, b]],
     (!(fineL [a, b])) = false,
     iP2 [I a, I b],
     (decide (b.lo ≤ 0)) = true,
     (decide (b.hi ≥ 0)) = false,
     ((quotI a b).bad) = true,
     (((quotI a b).lo == 0) && (((quotI a b).hi == 0) && (((quotI a b).bad) == true))) = true,
     wakesP []]) := by kernel_rfl
theorem ih4_leaf (a b : Iv) (i k : Int) (hi : I64 i) (hk : I64 k) (q0 : (fineL [a, b]) = true) (q1 : (decide (b.lo ≤ 0)) = true) (q2 : (decide (b.hi ≥ 0)) = false) (q3 : ((quotI a b).bad) = true) (q4 : (((quotI a b).lo == 0) && (((quotI a b).hi == 0) && (((quotI a b).bad) == true))) = true) : Gives P 7 #[I a, I b, .int .i64 i, .int .i64 k] (.bool true) := by
  have _hi := hi
  have _hk := hk
  have R := ih4_run a b i k
  refine gives_of_run mo R (ps_cons (ivs_ok (by simp)) (ps_cons (neg_f q0) (ps_cons ⟨⟨_, rfl⟩, _, rfl⟩ (ps_cons q1 (ps_cons q2 (ps_cons q3 (ps_cons q4 (ps_cons trivial ps_nil)))))))) ?_
  rfl
theorem ih5_run (a b : Iv) (i k : Int) : runF P EL 1 7 [I a, I b, .int .i64 i, .int .i64 k] (.lit :: (.b false :: (.b true :: (.b false :: (.b false :: (.lit :: (.lit :: (.lit :: (.b true :: (.lit :: (.b true :: (.b true :: (.b true :: []))))))))))))) =
  some (.bool true,
    [fineP [ivs [a, b]],
     (!(fineL [a, b])) = false,
     iP2 [I a, I b],
     (decide (b.lo ≤ 0)) = true,
     (decide (b.hi ≥ 0)) = false,
     ((quotI a b).bad) = false,
     inP [I a, .int .i64 i],
     inP [I b, .int .i64 k],
     timesP [ints [(quotI a b).lo, inV b k]],
     timesP [ints [inV a i, 1073741824]],
     timesP [ints [(quotI a b).hi, inV b k]],
     (decide (inV b k < 0)) = true,
     fineP [ivs [quotI a b]],
     (fineL [quotI a b]) = true,
     P2 [W (prodL [(quotI a b).hi, inV b k]), W (prodL [inV a i, 1073741824])],
     (decide (cmp3 (tI (W (prodL [(quotI a b).hi, inV b k]))) (tI (W (prodL [inV a i, 1073741824]))) ≤ 0)) = true,
     P2 [W (prodL [inV a i, 1073741824]), W (prodL [(quotI a b).lo, inV b k])],
     (decide (cmp3 (tI (W (prodL [inV a i, 1073741824]))) (tI (W (prodL [(quotI a b).lo, inV b k]))) ≤ 0)) = true,
     wakesP []]) := by kernel_rfl
theorem ih5_leaf (a b : Iv) (i k : Int) (hi : I64 i) (hk : I64 k) (q0 : (fineL [a, b]) = true) (q1 : (decide (b.lo ≤ 0)) = true) (q2 : (decide (b.hi ≥ 0)) = false) (q3 : ((quotI a b).bad) = false) (q4 : (decide (inV b k < 0)) = true) (q5 : (fineL [quotI a b]) = true) (q6 : (decide (cmp3 (tI (W (prodL [(quotI a b).hi, inV b k]))) (tI (W (prodL [inV a i, 1073741824]))) ≤ 0)) = true) (q7 : (decide (cmp3 (tI (W (prodL [inV a i, 1073741824]))) (tI (W (prodL [(quotI a b).lo, inV b k]))) ≤ 0)) = true) : Gives P 7 #[I a, I b, .int .i64 i, .int .i64 k] (.bool true) := by
  have _hi := hi
  have _hk := hk
  have R := ih5_run a b i k
  refine gives_of_run mo R (ps_cons (ivs_ok (by simp)) (ps_cons (neg_f q0) (ps_cons ⟨⟨_, rfl⟩, _, rfl⟩ (ps_cons q1 (ps_cons q2 (ps_cons q3 (ps_cons ⟨⟨_, rfl, (fine2.1 q0).1⟩, hi⟩ (ps_cons ⟨⟨_, rfl, (fine2.1 q0).2⟩, hk⟩ (ps_cons (.inl ⟨_, _, rfl, (fine64 (quot_good q3).2.2.2.1).1, in64 k (fine2.1 q0).2⟩) (ps_cons (.inl ⟨_, _, rfl, in64 i (fine2.1 q0).1, i64one⟩) (ps_cons (.inl ⟨_, _, rfl, (fine64 (quot_good q3).2.2.2.1).2, in64 k (fine2.1 q0).2⟩) (ps_cons q4 (ps_cons (ivs_ok (by simp)) (ps_cons q5 (ps_cons (P2_W _ _) (ps_cons q6 (ps_cons (P2_W _ _) (ps_cons q7 (ps_cons trivial ps_nil))))))))))))))))))) ?_
  rfl
theorem InvHolds_all (a b : Iv) {i k : Int} (hi : I64 i) (hk : I64 k) : Gives P 7 #[I a, I b, .int .i64 i, .int .i64 k] (.bool true) := by
  cases q0 : (fineL [a, b]) with
  | true =>
    cases q1 : (decide (b.lo ≤ 0)) with
    | true =>
      cases q2 : (decide (b.hi ≥ 0)) with
      | true =>
        have q3 : (((quotI a b).lo == 0) && (((quotI a b).hi == 0) && (((quotI a b).bad) == true))) = true := (bd_eq (quot_sg q1 q2))
        exact ih0_leaf a b i k hi hk q0 q1 q2 q3
      | false =>
        cases q3 : ((quotI a b).bad) with
        | true =>
          have q4 : (((quotI a b).lo == 0) && (((quotI a b).hi == 0) && (((quotI a b).bad) == true))) = true := (bd_eq (quot_bad q3))
          exact ih4_leaf a b i k hi hk q0 q1 q2 q3 q4
        | false =>
          have q4 : (decide (inV b k < 0)) = true := (decide_eq_true (by have h1 := of_decide_eq_false q2; have h2 := (hold i k q3).y2; omega))
          have q5 : (fineL [quotI a b]) = true := (by rw [fine1]; exact (hold i k q3).f)
          have q6 : (decide (cmp3 (tI (W (prodL [(quotI a b).hi, inV b k]))) (tI (W (prodL [inV a i, 1073741824]))) ≤ 0)) = true := (by rw [(hold i k q3).h, (hold i k q3).m]; exact le_c ((hold i k q3).n (of_decide_eq_true q4)).1)
          have q7 : (decide (cmp3 (tI (W (prodL [inV a i, 1073741824]))) (tI (W (prodL [(quotI a b).lo, inV b k]))) ≤ 0)) = true := (by rw [(hold i k q3).m, (hold i k q3).l]; exact le_c ((hold i k q3).n (of_decide_eq_true q4)).2)
          exact ih5_leaf a b i k hi hk q0 q1 q2 q3 q4 q5 q6 q7
    | false =>
      cases q2 : ((quotI a b).bad) with
      | true =>
        have q3 : (((quotI a b).lo == 0) && (((quotI a b).hi == 0) && (((quotI a b).bad) == true))) = true := (bd_eq (quot_bad q2))
        exact ih2_leaf a b i k hi hk q0 q1 q2 q3
      | false =>
        have q3 : (decide (inV b k < 0)) = false := (decide_eq_false (by have h1 := of_decide_eq_false q1; have h2 := (hold i k q2).y1; omega))
        have q4 : (fineL [quotI a b]) = true := (by rw [fine1]; exact (hold i k q2).f)
        have q5 : (decide (cmp3 (tI (W (prodL [(quotI a b).lo, inV b k]))) (tI (W (prodL [inV a i, 1073741824]))) ≤ 0)) = true := (by rw [(hold i k q2).l, (hold i k q2).m]; exact le_c ((hold i k q2).p (by have h1 := of_decide_eq_false q1; have h2 := (hold i k q2).y1; omega)).1)
        have q6 : (decide (cmp3 (tI (W (prodL [inV a i, 1073741824]))) (tI (W (prodL [(quotI a b).hi, inV b k]))) ≤ 0)) = true := (by rw [(hold i k q2).m, (hold i k q2).h]; exact le_c ((hold i k q2).p (by have h1 := of_decide_eq_false q1; have h2 := (hold i k q2).y1; omega)).2)
        exact ih3_leaf a b i k hi hk q0 q1 q2 q3 q4 q5 q6
  | false =>
    have q1 : ((quotI a b).bad) = true := (by rw [quot_no q0]; rfl)
    exact ih1_leaf a b i k hi hk q0 q1

theorem square_no {a : Iv} (h : fineL [a] = false) : squareI a = bd := by unfold squareI; rw [h]; rfl
theorem root_no {a : Iv} (h : fineL [a] = false) : rootI a = bd := by unfold rootI; rw [h]; rfl
theorem mx_neg {a : Iv} (h : fine a = true) : mx a.hi (IntKind.i64.wrap (0 - a.lo)) = most a := by
  have := fine_iff.1 h
  rw [Int.zero_sub, wr (by omega) (by omega)]
  rfl
theorem sq_big {a : Iv} (h : fine a = true) (hb : (squareI a).bad = true) : decide (mx a.hi (IntKind.i64.wrap (0 - a.lo)) ≤ 17592186044416) = false := by
  rw [mx_neg h]
  refine decide_eq_false fun hm => ?_
  have m := most_spec h
  have h1 := (m.2.2.1 a.hi (by have := fine_iff.1 h; omega) (Int.le_refl _)).1
  have h2 := (m.2.2.1 a.lo (Int.le_refl _) (by have := fine_iff.1 h; omega)).2
  rw [square_fits h (by omega) (by omega)] at hb
  cases hb
theorem root_b {a : Iv} (h : fine a = true) : ((rootI a).bad != (decide (a.lo < 0))) = false := by rw [root_bad h]; simp
theorem ir0_run (a : Iv) (i : Int) : runF P EL 1 8 [I a, .int .i64 i] (.lit :: (.b false :: (.b false :: (lits 7 (.b true :: (.b false :: (.b false :: (.b true :: [])))))))) =
  some (.bool true,
    [iP1 [I a],
     iP1 [I a],
     fineP [ivs [a]],
     (!(fineL [a])) = false,
     inP [I a, .int .i64 i],
     (!((squareI a).bad)) = false,
     ((squareI a).bad) = true,
     (decide (mx a.hi (IntKind.i64.wrap (0 - a.lo)) ≤ 17592186044416)) = false,
     (((rootI a).bad) != (decide (a.lo < 0))) = false,
     ((rootI a).bad) = true,
     wakesP []]) := by kernel_rfl
theorem ir0_leaf (a : Iv) (i : Int) (hi : I64 i) (q0 : (fineL [a]) = true) (q1 : ((squareI a).bad) = true) (q2 : (decide (mx a.hi (IntKind.i64.wrap (0 - a.lo)) ≤ 17592186044416)) = false) (q3 : (((rootI a).bad) != (decide (a.lo < 0))) = false) (q4 : ((rootI a).bad) = true) : Gives P 8 #[I a, .int .i64 i] (.bool true) := by
  have _hi := hi
  have R := ir0_run a i
  refine gives_of_run mo R (ps_cons ⟨_, rfl⟩ (ps_cons ⟨_, rfl⟩ (ps_cons (ivs_ok (by simp)) (ps_cons (neg_f q0) (ps_cons ⟨⟨_, rfl, (fine1 ▸ q0)⟩, hi⟩ (ps_cons (neg_f q1) (ps_cons q1 (ps_cons q2 (ps_cons q3 (ps_cons q4 (ps_cons trivial ps_nil))))))))))) ?_
  rfl
theorem ir1_run (a : Iv) (i : Int) : runF P EL 1 8 [I a, .int .i64 i] (.lit :: (.b true :: (.b true :: (.b true :: [])))) =
  some (.bool true,
    [iP1 [I a],
     iP1 [I a],
     fineP [ivs [a]],
     (!(fineL [a])) = true,
     ((rootI a).bad) = true,
     ((squareI a).bad) = true,
     wakesP []]) := by kernel_rfl
theorem ir1_leaf (a : Iv) (i : Int) (hi : I64 i) (q0 : (fineL [a]) = false) (q1 : ((rootI a).bad) = true) (q2 : ((squareI a).bad) = true) : Gives P 8 #[I a, .int .i64 i] (.bool true) := by
  have _hi := hi
  have R := ir1_run a i
  refine gives_of_run mo R (ps_cons ⟨_, rfl⟩ (ps_cons ⟨_, rfl⟩ (ps_cons (ivs_ok (by simp)) (ps_cons (neg_t q0) (ps_cons q1 (ps_cons q2 (ps_cons trivial ps_nil))))))) ?_
  rfl
theorem ir2_run (a : Iv) (i : Int) : runF P EL 1 8 [I a, .int .i64 i] (.lit :: (.b false :: (.b true :: (.b false :: (.lit :: (.lit :: (.b false :: (.lit :: (.lit :: (.b false :: (.b false :: (.lit :: (.b false :: (.b true :: [])))))))))))))) =
  some (.bool true,
    [iP1 [I a],
     iP1 [I a],
     fineP [ivs [a]],
     (!(fineL [a])) = false,
     inP [I a, .int .i64 i],
     (!((squareI a).bad)) = true,
     (decide ((squareI a).lo < 0)) = false,
     timesP [ints [(squareI a).lo, 1073741824]],
     timesP [ints [inV a i, inV a i]],
     P2 [W (prodL [(squareI a).lo, 1073741824]), W (prodL [inV a i, inV a i])],
     (decide (cmp3 (tI (W (prodL [(squareI a).lo, 1073741824]))) (tI (W (prodL [inV a i, inV a i]))) > 0)) = false,
     timesP [ints [inV a i, inV a i]],
     timesP [ints [(squareI a).hi, 1073741824]],
     P2 [W (prodL [inV a i, inV a i]), W (prodL [(squareI a).hi, 1073741824])],
     (decide (cmp3 (tI (W (prodL [inV a i, inV a i]))) (tI (W (prodL [(squareI a).hi, 1073741824]))) > 0)) = false,
     ((squareI a).bad) = false,
     (((rootI a).bad) != (decide (a.lo < 0))) = false,
     ((rootI a).bad) = true,
     wakesP []]) := by kernel_rfl
theorem ir2_leaf (a : Iv) (i : Int) (hi : I64 i) (q0 : (fineL [a]) = true) (q1 : ((squareI a).bad) = false) (q2 : (decide ((squareI a).lo < 0)) = false) (q3 : (decide (cmp3 (tI (W (prodL [(squareI a).lo, 1073741824]))) (tI (W (prodL [inV a i, inV a i]))) > 0)) = false) (q4 : (decide (cmp3 (tI (W (prodL [inV a i, inV a i]))) (tI (W (prodL [(squareI a).hi, 1073741824]))) > 0)) = false) (q5 : (((rootI a).bad) != (decide (a.lo < 0))) = false) (q6 : ((rootI a).bad) = true) : Gives P 8 #[I a, .int .i64 i] (.bool true) := by
  have _hi := hi
  have R := ir2_run a i
  refine gives_of_run mo R (ps_cons ⟨_, rfl⟩ (ps_cons ⟨_, rfl⟩ (ps_cons (ivs_ok (by simp)) (ps_cons (neg_f q0) (ps_cons ⟨⟨_, rfl, (fine1 ▸ q0)⟩, hi⟩ (ps_cons (neg_t q1) (ps_cons q2 (ps_cons (.inl ⟨_, _, rfl, (fine64 ((square_good q1).2.1)).1, i64one⟩) (ps_cons (.inl ⟨_, _, rfl, in64 i (fine1 ▸ q0), in64 i (fine1 ▸ q0)⟩) (ps_cons (P2_W _ _) (ps_cons q3 (ps_cons (.inl ⟨_, _, rfl, in64 i (fine1 ▸ q0), in64 i (fine1 ▸ q0)⟩) (ps_cons (.inl ⟨_, _, rfl, (fine64 ((square_good q1).2.1)).2, i64one⟩) (ps_cons (P2_W _ _) (ps_cons q4 (ps_cons q1 (ps_cons q5 (ps_cons q6 (ps_cons trivial ps_nil))))))))))))))))))) ?_
  rfl
theorem ir3_run (a : Iv) (i : Int) : runF P EL 1 8 [I a, .int .i64 i] (.lit :: (.b false :: (.b true :: (.b false :: (.lit :: (.lit :: (.b false :: (.lit :: (.lit :: (.b false :: (.b false :: (.lit :: (.b false :: (.b false :: (.b true :: (.lit :: (.lit :: (.b true :: (.lit :: (.lit :: (.b true :: []))))))))))))))))))))) =
  some (.bool true,
    [iP1 [I a],
     iP1 [I a],
     fineP [ivs [a]],
     (!(fineL [a])) = false,
     inP [I a, .int .i64 i],
     (!((squareI a).bad)) = true,
     (decide ((squareI a).lo < 0)) = false,
     timesP [ints [(squareI a).lo, 1073741824]],
     timesP [ints [inV a i, inV a i]],
     P2 [W (prodL [(squareI a).lo, 1073741824]), W (prodL [inV a i, inV a i])],
     (decide (cmp3 (tI (W (prodL [(squareI a).lo, 1073741824]))) (tI (W (prodL [inV a i, inV a i]))) > 0)) = false,
     timesP [ints [inV a i, inV a i]],
     timesP [ints [(squareI a).hi, 1073741824]],
     P2 [W (prodL [inV a i, inV a i]), W (prodL [(squareI a).hi, 1073741824])],
     (decide (cmp3 (tI (W (prodL [inV a i, inV a i]))) (tI (W (prodL [(squareI a).hi, 1073741824]))) > 0)) = false,
     ((squareI a).bad) = false,
     (((rootI a).bad) != (decide (a.lo < 0))) = false,
     ((rootI a).bad) = false,
     (decide ((rootI a).lo ≥ 0)) = true,
     timesP [ints [(rootI a).lo, (rootI a).lo]],
     timesP [ints [inV a i, 1073741824]],
     P2 [W (prodL [(rootI a).lo, (rootI a).lo]), W (prodL [inV a i, 1073741824])],
     (decide (cmp3 (tI (W (prodL [(rootI a).lo, (rootI a).lo]))) (tI (W (prodL [inV a i, 1073741824]))) ≤ 0)) = true,
     timesP [ints [inV a i, 1073741824]],
     timesP [ints [(rootI a).hi, (rootI a).hi]],
     P2 [W (prodL [inV a i, 1073741824]), W (prodL [(rootI a).hi, (rootI a).hi])],
     (decide (cmp3 (tI (W (prodL [inV a i, 1073741824]))) (tI (W (prodL [(rootI a).hi, (rootI a).hi]))) ≤ 0)) = true,
     wakesP []]) := by kernel_rfl
theorem ir3_leaf (a : Iv) (i : Int) (hi : I64 i) (q0 : (fineL [a]) = true) (q1 : ((squareI a).bad) = false) (q2 : (decide ((squareI a).lo < 0)) = false) (q3 : (decide (cmp3 (tI (W (prodL [(squareI a).lo, 1073741824]))) (tI (W (prodL [inV a i, inV a i]))) > 0)) = false) (q4 : (decide (cmp3 (tI (W (prodL [inV a i, inV a i]))) (tI (W (prodL [(squareI a).hi, 1073741824]))) > 0)) = false) (q5 : (((rootI a).bad) != (decide (a.lo < 0))) = false) (q6 : ((rootI a).bad) = false) (q7 : (decide ((rootI a).lo ≥ 0)) = true) (q8 : (decide (cmp3 (tI (W (prodL [(rootI a).lo, (rootI a).lo]))) (tI (W (prodL [inV a i, 1073741824]))) ≤ 0)) = true) (q9 : (decide (cmp3 (tI (W (prodL [inV a i, 1073741824]))) (tI (W (prodL [(rootI a).hi, (rootI a).hi]))) ≤ 0)) = true) : Gives P 8 #[I a, .int .i64 i] (.bool true) := by
  have _hi := hi
  have R := ir3_run a i
  refine gives_of_run mo R (ps_cons ⟨_, rfl⟩ (ps_cons ⟨_, rfl⟩ (ps_cons (ivs_ok (by simp)) (ps_cons (neg_f q0) (ps_cons ⟨⟨_, rfl, (fine1 ▸ q0)⟩, hi⟩ (ps_cons (neg_t q1) (ps_cons q2 (ps_cons (.inl ⟨_, _, rfl, (fine64 ((square_good q1).2.1)).1, i64one⟩) (ps_cons (.inl ⟨_, _, rfl, in64 i (fine1 ▸ q0), in64 i (fine1 ▸ q0)⟩) (ps_cons (P2_W _ _) (ps_cons q3 (ps_cons (.inl ⟨_, _, rfl, in64 i (fine1 ▸ q0), in64 i (fine1 ▸ q0)⟩) (ps_cons (.inl ⟨_, _, rfl, (fine64 ((square_good q1).2.1)).2, i64one⟩) (ps_cons (P2_W _ _) (ps_cons q4 (ps_cons q1 (ps_cons q5 (ps_cons q6 (ps_cons q7 (ps_cons (.inl ⟨_, _, rfl, (fine64 ((root_good q6).2.2.1)).1, (fine64 ((root_good q6).2.2.1)).1⟩) (ps_cons (.inl ⟨_, _, rfl, in64 i (fine1 ▸ q0), i64one⟩) (ps_cons (P2_W _ _) (ps_cons q8 (ps_cons (.inl ⟨_, _, rfl, in64 i (fine1 ▸ q0), i64one⟩) (ps_cons (.inl ⟨_, _, rfl, (fine64 ((root_good q6).2.2.1)).2, (fine64 ((root_good q6).2.2.1)).2⟩) (ps_cons (P2_W _ _) (ps_cons q9 (ps_cons trivial ps_nil)))))))))))))))))))))))))))) ?_
  rfl
theorem ir4_run (a : Iv) (i : Int) : runF P EL 1 8 [I a, .int .i64 i] (.lit :: (.b false :: (.b false :: (lits 7 (.b true :: (.b false :: (.b false :: (.b false :: (.b true :: (.lit :: (.lit :: (.b true :: (.lit :: (.lit :: (.b true :: []))))))))))))))) =
  some (.bool true,
    [iP1 [I a],
     iP1 [I a],
     fineP [ivs [a]],
     (!(fineL [a])) = false,
     inP [I a, .int .i64 i],
     (!((squareI a).bad)) = false,
     ((squareI a).bad) = true,
     (decide (mx a.hi (IntKind.i64.wrap (0 - a.lo)) ≤ 17592186044416)) = false,
     (((rootI a).bad) != (decide (a.lo < 0))) = false,
     ((rootI a).bad) = false,
     (decide ((rootI a).lo ≥ 0)) = true,
     timesP [ints [(rootI a).lo, (rootI a).lo]],
     timesP [ints [inV a i, 1073741824]],
     P2 [W (prodL [(rootI a).lo, (rootI a).lo]), W (prodL [inV a i, 1073741824])],
     (decide (cmp3 (tI (W (prodL [(rootI a).lo, (rootI a).lo]))) (tI (W (prodL [inV a i, 1073741824]))) ≤ 0)) = true,
     timesP [ints [inV a i, 1073741824]],
     timesP [ints [(rootI a).hi, (rootI a).hi]],
     P2 [W (prodL [inV a i, 1073741824]), W (prodL [(rootI a).hi, (rootI a).hi])],
     (decide (cmp3 (tI (W (prodL [inV a i, 1073741824]))) (tI (W (prodL [(rootI a).hi, (rootI a).hi]))) ≤ 0)) = true,
     wakesP []]) := by kernel_rfl
theorem ir4_leaf (a : Iv) (i : Int) (hi : I64 i) (q0 : (fineL [a]) = true) (q1 : ((squareI a).bad) = true) (q2 : (decide (mx a.hi (IntKind.i64.wrap (0 - a.lo)) ≤ 17592186044416)) = false) (q3 : (((rootI a).bad) != (decide (a.lo < 0))) = false) (q4 : ((rootI a).bad) = false) (q5 : (decide ((rootI a).lo ≥ 0)) = true) (q6 : (decide (cmp3 (tI (W (prodL [(rootI a).lo, (rootI a).lo]))) (tI (W (prodL [inV a i, 1073741824]))) ≤ 0)) = true) (q7 : (decide (cmp3 (tI (W (prodL [inV a i, 1073741824]))) (tI (W (prodL [(rootI a).hi, (rootI a).hi]))) ≤ 0)) = true) : Gives P 8 #[I a, .int .i64 i] (.bool true) := by
  have _hi := hi
  have R := ir4_run a i
  refine gives_of_run mo R (ps_cons ⟨_, rfl⟩ (ps_cons ⟨_, rfl⟩ (ps_cons (ivs_ok (by simp)) (ps_cons (neg_f q0) (ps_cons ⟨⟨_, rfl, (fine1 ▸ q0)⟩, hi⟩ (ps_cons (neg_f q1) (ps_cons q1 (ps_cons q2 (ps_cons q3 (ps_cons q4 (ps_cons q5 (ps_cons (.inl ⟨_, _, rfl, (fine64 ((root_good q4).2.2.1)).1, (fine64 ((root_good q4).2.2.1)).1⟩) (ps_cons (.inl ⟨_, _, rfl, in64 i (fine1 ▸ q0), i64one⟩) (ps_cons (P2_W _ _) (ps_cons q6 (ps_cons (.inl ⟨_, _, rfl, in64 i (fine1 ▸ q0), i64one⟩) (ps_cons (.inl ⟨_, _, rfl, (fine64 ((root_good q4).2.2.1)).2, (fine64 ((root_good q4).2.2.1)).2⟩) (ps_cons (P2_W _ _) (ps_cons q7 (ps_cons trivial ps_nil)))))))))))))))))))) ?_
  rfl
theorem InvRoots_all (a : Iv) {i : Int} (hi : I64 i) : Gives P 8 #[I a, .int .i64 i] (.bool true) := by
  cases q0 : (fineL [a]) with
  | true =>
    cases q1 : ((squareI a).bad) with
    | true =>
      have q2 : (decide (mx a.hi (IntKind.i64.wrap (0 - a.lo)) ≤ 17592186044416)) = false := (sq_big (fine1 ▸ q0) q1)
      have q3 : (((rootI a).bad) != (decide (a.lo < 0))) = false := (root_b (fine1 ▸ q0))
      cases q4 : ((rootI a).bad) with
      | true =>
        exact ir0_leaf a i hi q0 q1 q2 q3 q4
      | false =>
        have q5 : (decide ((rootI a).lo ≥ 0)) = true := (decide_eq_true (root_in q4 (in_in i (fine1 ▸ q0)).1 (in_in i (fine1 ▸ q0)).2).1)
        have q6 : (decide (cmp3 (tI (W (prodL [(rootI a).lo, (rootI a).lo]))) (tI (W (prodL [inV a i, 1073741824]))) ≤ 0)) = true := (by rw [pr2 (fine64 ((root_good q4).2.2.1)).1 (fine64 ((root_good q4).2.2.1)).1, pr2 (in64 i (fine1 ▸ q0)) i64one]; exact le_c ((root_in q4 (in_in i (fine1 ▸ q0)).1 (in_in i (fine1 ▸ q0)).2).2.2.1))
        have q7 : (decide (cmp3 (tI (W (prodL [inV a i, 1073741824]))) (tI (W (prodL [(rootI a).hi, (rootI a).hi]))) ≤ 0)) = true := (by rw [pr2 (in64 i (fine1 ▸ q0)) i64one, pr2 (fine64 ((root_good q4).2.2.1)).2 (fine64 ((root_good q4).2.2.1)).2]; exact le_c ((root_in q4 (in_in i (fine1 ▸ q0)).1 (in_in i (fine1 ▸ q0)).2).2.2.2))
        exact ir4_leaf a i hi q0 q1 q2 q3 q4 q5 q6 q7
    | false =>
      have q2 : (decide ((squareI a).lo < 0)) = false := (decide_eq_false (by have := (square_in q1 (in_in i (fine1 ▸ q0)).1 (in_in i (fine1 ▸ q0)).2).1; omega))
      have q3 : (decide (cmp3 (tI (W (prodL [(squareI a).lo, 1073741824]))) (tI (W (prodL [inV a i, inV a i]))) > 0)) = false := (by rw [pr2 (fine64 ((square_good q1).2.1)).1 i64one, pr2 (in64 i (fine1 ▸ q0)) (in64 i (fine1 ▸ q0))]; exact gt_c ((square_in q1 (in_in i (fine1 ▸ q0)).1 (in_in i (fine1 ▸ q0)).2).2.1))
      have q4 : (decide (cmp3 (tI (W (prodL [inV a i, inV a i]))) (tI (W (prodL [(squareI a).hi, 1073741824]))) > 0)) = false := (by rw [pr2 (in64 i (fine1 ▸ q0)) (in64 i (fine1 ▸ q0)), pr2 (fine64 ((square_good q1).2.1)).2 i64one]; exact gt_c ((square_in q1 (in_in i (fine1 ▸ q0)).1 (in_in i (fine1 ▸ q0)).2).2.2))
      have q5 : (((rootI a).bad) != (decide (a.lo < 0))) = false := (root_b (fine1 ▸ q0))
      cases q6 : ((rootI a).bad) with
      | true =>
        exact ir2_leaf a i hi q0 q1 q2 q3 q4 q5 q6
      | false =>
        have q7 : (decide ((rootI a).lo ≥ 0)) = true := (decide_eq_true (root_in q6 (in_in i (fine1 ▸ q0)).1 (in_in i (fine1 ▸ q0)).2).1)
        have q8 : (decide (cmp3 (tI (W (prodL [(rootI a).lo, (rootI a).lo]))) (tI (W (prodL [inV a i, 1073741824]))) ≤ 0)) = true := (by rw [pr2 (fine64 ((root_good q6).2.2.1)).1 (fine64 ((root_good q6).2.2.1)).1, pr2 (in64 i (fine1 ▸ q0)) i64one]; exact le_c ((root_in q6 (in_in i (fine1 ▸ q0)).1 (in_in i (fine1 ▸ q0)).2).2.2.1))
        have q9 : (decide (cmp3 (tI (W (prodL [inV a i, 1073741824]))) (tI (W (prodL [(rootI a).hi, (rootI a).hi]))) ≤ 0)) = true := (by rw [pr2 (in64 i (fine1 ▸ q0)) i64one, pr2 (fine64 ((root_good q6).2.2.1)).2 (fine64 ((root_good q6).2.2.1)).2]; exact le_c ((root_in q6 (in_in i (fine1 ▸ q0)).1 (in_in i (fine1 ▸ q0)).2).2.2.2))
        exact ir3_leaf a i hi q0 q1 q2 q3 q4 q5 q6 q7 q8 q9
  | false =>
    have q1 : ((rootI a).bad) = true := (by rw [root_no q0]; rfl)
    have q2 : ((squareI a).bad) = true := (by rw [square_no q0]; rfl)
    exact ir1_leaf a i hi q0 q1 q2

theorem pr5 {x y z : Int} (h0 : 0 ≤ x) (h1 : x ≤ 1152921504606846976) (h2 : 0 ≤ y) (h3 : y ≤ 1099511627776) (hz : z = prodL [x, x, y, y, y]) : tI (W z) = x * x * (y * y * y) := by
  have e : z = x * x * (y * y * y) := by
    rw [hz]; show 1 * x * x * y * y * y = _; rw [Int.one_mul, Int.mul_assoc (x * x) y y, Int.mul_assoc (x * x)]
  rw [e]
  refine tI_in ?_
  have a1 := Int.mul_le_mul h1 h1 h0 (by decide)
  have a2 := Int.mul_le_mul h3 h3 h2 (by decide)
  have b1 := Int.mul_nonneg h2 h2
  have a3 := Int.mul_le_mul a2 h3 h2 (by decide)
  have b2 := Int.mul_nonneg b1 h2
  have b3 := Int.mul_nonneg h0 h0
  have a4 := Int.mul_le_mul a1 a3 b2 (by decide)
  have b4 := Int.mul_nonneg b3 b2
  generalize x * x * (y * y * y) = w at *
  unfold InR
  simp only [HH]
  omega
theorem five : tI (W (prodL [1073741824, 1073741824, 1073741824, 1073741824, 1073741824])) = 1073741824 * 1073741824 * 1073741824 * 1073741824 * 1073741824 := by decide +kernel
structure Cub (a : Iv) (i : Int) : Prop where
  f : fine (cubeI a) = true
  z : 0 ≤ (cubeI a).lo
  l : tI (W (prodL [(cubeI a).lo, (cubeI a).lo, inV a i, inV a i, inV a i])) ≤ 1073741824 * 1073741824 * 1073741824 * 1073741824 * 1073741824
  h : 1073741824 * 1073741824 * 1073741824 * 1073741824 * 1073741824 ≤ tI (W (prodL [(cubeI a).hi, (cubeI a).hi, inV a i, inV a i, inV a i]))
theorem cub {a : Iv} (i : Int) (h : (cubeI a).bad = false) (hl : ¬ a.lo < 1) (hh : ¬ a.hi > 1099511627776) : Cub a i := by
  have g := cube_good h
  have fa := g.1
  obtain ⟨x1, x2⟩ := in_in i fa
  have c := cube_in h x1 x2
  have ff : fine (cubeI a) = true := by rw [g.2.2.2.2.2.1]; exact (quot_good g.2.2.2.2.1).2.2.2.1
  have rc' := fine_iff.1 ff
  refine ⟨ff, c.1, ?_, ?_⟩
  · rw [pr5 (x := (cubeI a).lo) (y := inV a i) c.1 (by omega) (by omega) (by omega) rfl]; exact c.2.1
  · rw [pr5 (x := (cubeI a).hi) (y := inV a i) (by omega) (by omega) (by omega) (by omega) rfl]; exact c.2.2
theorem cube_b {a : Iv} (h : fine a = true) (hb : (cubeI a).bad = true) (hh : ¬ a.hi > 1099511627776) : decide (a.lo < 4194304) = true := by
  refine decide_eq_true (Classical.byContradiction fun hn => ?_)
  rw [cube_fits h (by omega) (by omega)] at hb
  cases hb
theorem ic0_run (a : Iv) (i : Int) : runF P EL 1 9 [I a, .int .i64 i] (.lit :: (.b false :: (.b true :: []))) =
  some (.bool true,
    [fineP [ivs [a]],
     (!(fineL [a])) = false,
     (decide (a.lo < 1)) = true,
     wakesP []]) := by kernel_rfl
theorem ic0_leaf (a : Iv) (i : Int) (hi : I64 i) (q0 : (fineL [a]) = true) (q1 : (decide (a.lo < 1)) = true) : Gives P 9 #[I a, .int .i64 i] (.bool true) := by
  have _hi := hi
  have R := ic0_run a i
  refine gives_of_run mo R (ps_cons (ivs_ok (by simp)) (ps_cons (neg_f q0) (ps_cons q1 (ps_cons trivial ps_nil)))) ?_
  rfl
theorem ic1_run (a : Iv) (i : Int) : runF P EL 1 9 [I a, .int .i64 i] (.lit :: (.b true :: [])) =
  some (.bool true,
    [fineP [ivs [a]],
     (!(fineL [a])) = true,
     wakesP []]) := by kernel_rfl
theorem ic1_leaf (a : Iv) (i : Int) (hi : I64 i) (q0 : (fineL [a]) = false) : Gives P 9 #[I a, .int .i64 i] (.bool true) := by
  have _hi := hi
  have R := ic1_run a i
  refine gives_of_run mo R (ps_cons (ivs_ok (by simp)) (ps_cons (neg_t q0) (ps_cons trivial ps_nil))) ?_
  rfl
theorem ic2_run (a : Iv) (i : Int) : runF P EL 1 9 [I a, .int .i64 i] (.lit :: (.b false :: (.b false :: (.b true :: [])))) =
  some (.bool true,
    [fineP [ivs [a]],
     (!(fineL [a])) = false,
     (decide (a.lo < 1)) = false,
     (decide (a.hi > 1099511627776)) = true,
     wakesP []]) := by kernel_rfl
theorem ic2_leaf (a : Iv) (i : Int) (hi : I64 i) (q0 : (fineL [a]) = true) (q1 : (decide (a.lo < 1)) = false) (q2 : (decide (a.hi > 1099511627776)) = true) : Gives P 9 #[I a, .int .i64 i] (.bool true) := by
  have _hi := hi
  have R := ic2_run a i
  refine gives_of_run mo R (ps_cons (ivs_ok (by simp)) (ps_cons (neg_f q0) (ps_cons q1 (ps_cons q2 (ps_cons trivial ps_nil))))) ?_
  rfl
theorem ic3_run (a : Iv) (i : Int) : runF P EL 1 9 [I a, .int .i64 i] (.lit :: (.b false :: (.b false :: (.b false :: (.b true :: (.b true :: [])))))) =
  some (.bool true,
    [fineP [ivs [a]],
     (!(fineL [a])) = false,
     (decide (a.lo < 1)) = false,
     (decide (a.hi > 1099511627776)) = false,
     iP1 [I a],
     ((cubeI a).bad) = true,
     (decide (a.lo < 4194304)) = true,
     wakesP []]) := by kernel_rfl
theorem ic3_leaf (a : Iv) (i : Int) (hi : I64 i) (q0 : (fineL [a]) = true) (q1 : (decide (a.lo < 1)) = false) (q2 : (decide (a.hi > 1099511627776)) = false) (q3 : ((cubeI a).bad) = true) (q4 : (decide (a.lo < 4194304)) = true) : Gives P 9 #[I a, .int .i64 i] (.bool true) := by
  have _hi := hi
  have R := ic3_run a i
  refine gives_of_run mo R (ps_cons (ivs_ok (by simp)) (ps_cons (neg_f q0) (ps_cons q1 (ps_cons q2 (ps_cons ⟨_, rfl⟩ (ps_cons q3 (ps_cons q4 (ps_cons trivial ps_nil)))))))) ?_
  rfl
theorem ic4_run (a : Iv) (i : Int) : runF P EL 1 9 [I a, .int .i64 i] (.lit :: (.b false :: (.b false :: (.b false :: (.b false :: (.lit :: (.lit :: (.lit :: (.b true :: (.b true :: (.b true :: []))))))))))) =
  some (.bool true,
    [fineP [ivs [a]],
     (!(fineL [a])) = false,
     (decide (a.lo < 1)) = false,
     (decide (a.hi > 1099511627776)) = false,
     iP1 [I a],
     ((cubeI a).bad) = false,
     inP [I a, .int .i64 i],
     timesP [ints [(cubeI a).lo, (cubeI a).lo, inV a i, inV a i, inV a i]],
     timesP [ints [(cubeI a).hi, (cubeI a).hi, inV a i, inV a i, inV a i]],
     timesP [ints [1073741824, 1073741824, 1073741824, 1073741824, 1073741824]],
     (decide ((cubeI a).lo ≥ 0)) = true,
     P2 [W (prodL [(cubeI a).lo, (cubeI a).lo, inV a i, inV a i, inV a i]), W (prodL [1073741824, 1073741824, 1073741824, 1073741824, 1073741824])],
     (decide (cmp3 (tI (W (prodL [(cubeI a).lo, (cubeI a).lo, inV a i, inV a i, inV a i]))) (tI (W (prodL [1073741824, 1073741824, 1073741824, 1073741824, 1073741824]))) ≤ 0)) = true,
     P2 [W (prodL [1073741824, 1073741824, 1073741824, 1073741824, 1073741824]), W (prodL [(cubeI a).hi, (cubeI a).hi, inV a i, inV a i, inV a i])],
     (decide (cmp3 (tI (W (prodL [1073741824, 1073741824, 1073741824, 1073741824, 1073741824]))) (tI (W (prodL [(cubeI a).hi, (cubeI a).hi, inV a i, inV a i, inV a i]))) ≤ 0)) = true,
     wakesP []]) := by kernel_rfl
theorem ic4_leaf (a : Iv) (i : Int) (hi : I64 i) (q0 : (fineL [a]) = true) (q1 : (decide (a.lo < 1)) = false) (q2 : (decide (a.hi > 1099511627776)) = false) (q3 : ((cubeI a).bad) = false) (q4 : (decide ((cubeI a).lo ≥ 0)) = true) (q5 : (decide (cmp3 (tI (W (prodL [(cubeI a).lo, (cubeI a).lo, inV a i, inV a i, inV a i]))) (tI (W (prodL [1073741824, 1073741824, 1073741824, 1073741824, 1073741824]))) ≤ 0)) = true) (q6 : (decide (cmp3 (tI (W (prodL [1073741824, 1073741824, 1073741824, 1073741824, 1073741824]))) (tI (W (prodL [(cubeI a).hi, (cubeI a).hi, inV a i, inV a i, inV a i]))) ≤ 0)) = true) : Gives P 9 #[I a, .int .i64 i] (.bool true) := by
  have _hi := hi
  have R := ic4_run a i
  refine gives_of_run mo R (ps_cons (ivs_ok (by simp)) (ps_cons (neg_f q0) (ps_cons q1 (ps_cons q2 (ps_cons ⟨_, rfl⟩ (ps_cons q3 (ps_cons ⟨⟨_, rfl, (fine1 ▸ q0)⟩, hi⟩ (ps_cons (.inr ⟨_, _, _, _, _, rfl, (fine64 (cub i q3 (of_decide_eq_false q1) (of_decide_eq_false q2)).f).1, (fine64 (cub i q3 (of_decide_eq_false q1) (of_decide_eq_false q2)).f).1, in64 i (fine1 ▸ q0), in64 i (fine1 ▸ q0), in64 i (fine1 ▸ q0)⟩) (ps_cons (.inr ⟨_, _, _, _, _, rfl, (fine64 (cub i q3 (of_decide_eq_false q1) (of_decide_eq_false q2)).f).2, (fine64 (cub i q3 (of_decide_eq_false q1) (of_decide_eq_false q2)).f).2, in64 i (fine1 ▸ q0), in64 i (fine1 ▸ q0), in64 i (fine1 ▸ q0)⟩) (ps_cons (.inr ⟨_, _, _, _, _, rfl, i64one, i64one, i64one, i64one, i64one⟩) (ps_cons q4 (ps_cons (P2_W _ _) (ps_cons q5 (ps_cons (P2_W _ _) (ps_cons q6 (ps_cons trivial ps_nil)))))))))))))))) ?_
  rfl
theorem InvCubes_all (a : Iv) {i : Int} (hi : I64 i) : Gives P 9 #[I a, .int .i64 i] (.bool true) := by
  cases q0 : (fineL [a]) with
  | true =>
    cases q1 : (decide (a.lo < 1)) with
    | true =>
      exact ic0_leaf a i hi q0 q1
    | false =>
      cases q2 : (decide (a.hi > 1099511627776)) with
      | true =>
        exact ic2_leaf a i hi q0 q1 q2
      | false =>
        cases q3 : ((cubeI a).bad) with
        | true =>
          have q4 : (decide (a.lo < 4194304)) = true := (cube_b (fine1 ▸ q0) q3 (of_decide_eq_false q2))
          exact ic3_leaf a i hi q0 q1 q2 q3 q4
        | false =>
          have q4 : (decide ((cubeI a).lo ≥ 0)) = true := (decide_eq_true (cub i q3 (of_decide_eq_false q1) (of_decide_eq_false q2)).z)
          have q5 : (decide (cmp3 (tI (W (prodL [(cubeI a).lo, (cubeI a).lo, inV a i, inV a i, inV a i]))) (tI (W (prodL [1073741824, 1073741824, 1073741824, 1073741824, 1073741824]))) ≤ 0)) = true := (by rw [five]; exact le_c (cub i q3 (of_decide_eq_false q1) (of_decide_eq_false q2)).l)
          have q6 : (decide (cmp3 (tI (W (prodL [1073741824, 1073741824, 1073741824, 1073741824, 1073741824]))) (tI (W (prodL [(cubeI a).hi, (cubeI a).hi, inV a i, inV a i, inV a i]))) ≤ 0)) = true := (by rw [five]; exact le_c (cub i q3 (of_decide_eq_false q1) (of_decide_eq_false q2)).h)
          exact ic4_leaf a i hi q0 q1 q2 q3 q4 q5 q6
  | false =>
    exact ic1_leaf a i hi q0
end Go.Nv

/-
  The law InvParts: it comes to true. Printed by inF.py.
-/
namespace Go.Nv
open Go Go.RowKit Go.Sx Go.Nm Go.Wd Go.Qt Go.Iv Go.Rt Go.Proofs

theorem ps_bif {b : Bool} {l s : List Prop} (h : b = true → ∀ p ∈ l, p) (k : b = false → ∀ p ∈ s, p) : ∀ p ∈ (bif b then l else s), p := by
  cases b with
  | true => exact h rfl
  | false => exact k rfl
def ptI (a : Iv) (i k : Int) : Iv := ⟨mn (inV a i) (inV a k), mx (inV a i) (inV a k), false⟩
theorem pt_in {a : Iv} (i k : Int) (h : fine a = true) : fine (ptI a i k) = true ∧ a.lo ≤ (ptI a i k).lo ∧ (ptI a i k).hi ≤ a.hi := by
  have h1 := in_in i h
  have h2 := in_in k h
  have := fine_iff.1 h
  have e1 : a.lo ≤ mn (inV a i) (inV a k) := mn_ge.2 ⟨h1.1, h2.1⟩
  have e2 : mx (inV a i) (inV a k) ≤ a.hi := mx_le.2 ⟨h1.2, h2.2⟩
  have e3 : mn (inV a i) (inV a k) ≤ mx (inV a i) (inV a k) := by unfold mn mx; split <;> split <;> omega
  exact ⟨fine_iff.2 ⟨rfl, by simp only [ptI]; omega, e3, by simp only [ptI]; omega⟩, e1, e2⟩
def ip_d (b0 b1 b2 b3 b4 b5 : Bool) : List Dec :=
  [.lit,
   .b false] ++ ((bif b0 then [.b false,
   .lit] else [.b true,
   .b false]) ++ ((bif b1 then [.b false,
   .lit] else [.b true,
   .b false]) ++ ((bif b2 then [.b false,
   .lit] else [.b true,
   .b false]) ++ ((bif b3 then [.b false,
   .lit] else [.b true,
   .b false]) ++ ((bif b4 then [.b false,
   .lit] else [.b true,
   .b false]) ++ ((bif b5 then [.b false,
   .b true,
   .b true] else [.b true,
   .lit,
   .lit])))))))
def ip_p (a b : Iv) (i k : Int) (b0 b1 b2 b3 b4 b5 : Bool) : List Prop :=
  [fineP [ivs [a, b]],
   (!(fineL [a, b])) = false,
   inP [I a, .int .i64 i],
   inP [I a, .int .i64 k],
   iP2 [I a, I b]] ++ ((bif b0 then [(!((quotI a b).bad)) = false] else [(!((quotI a b).bad)) = true,
   iP2 [I (ptI a i k), I b],
   iP2 [I (quotI a b), I (quotI (ptI a i k) b)],
   (!(holdsI (quotI a b) (quotI (ptI a i k) b))) = false]) ++ ([iP2 [I b, I a]] ++ ((bif b1 then [(!((quotI b a).bad)) = false] else [(!((quotI b a).bad)) = true,
   iP2 [I b, I (ptI a i k)],
   iP2 [I (quotI b a), I (quotI b (ptI a i k))],
   (!(holdsI (quotI b a) (quotI b (ptI a i k)))) = false]) ++ ([iP1 [I a]] ++ ((bif b2 then [(!((squareI a).bad)) = false] else [(!((squareI a).bad)) = true,
   iP1 [I (ptI a i k)],
   iP2 [I (squareI a), I (squareI (ptI a i k))],
   (!(holdsI (squareI a) (squareI (ptI a i k)))) = false]) ++ ([iP1 [I a]] ++ ((bif b3 then [(!((rootI a).bad)) = false] else [(!((rootI a).bad)) = true,
   iP1 [I (ptI a i k)],
   iP2 [I (rootI a), I (rootI (ptI a i k))],
   (!(holdsI (rootI a) (rootI (ptI a i k)))) = false]) ++ ([iP1 [I a]] ++ ((bif b4 then [(!((cubeI a).bad)) = false] else [(!((cubeI a).bad)) = true,
   iP1 [I (ptI a i k)],
   iP2 [I (cubeI a), I (cubeI (ptI a i k))],
   (!(holdsI (cubeI a) (cubeI (ptI a i k)))) = false]) ++ ([iP1 [I a],
   iP1 [I (ptI a i k)]] ++ ((bif b5 then [(!(signB a)) = false,
   (signB (ptI a i k)) = true,
   (signN a == signN (ptI a i k)) = true] else [(!(signB a)) = true]) ++ ([wakesP []]))))))))))))
theorem ip_run (a b : Iv) (i k : Int) (b0 b1 b2 b3 b4 b5 : Bool) : runF P EL 1 10 [I a, I b, .int .i64 i, .int .i64 k] (ip_d b0 b1 b2 b3 b4 b5) = some (.bool true, ip_p a b i k b0 b1 b2 b3 b4 b5) := by
  cases b0 <;> cases b1 <;> cases b2 <;> cases b3 <;> cases b4 <;> cases b5 <;> kernel_rfl
theorem ip_ok (a b : Iv) {i k : Int} (hi : I64 i) (hk : I64 k) (hf : fineL [a, b] = true) (fa : fine a = true) (fb : fine b = true) : ∀ p ∈ ip_p a b i k ((quotI a b).bad) ((quotI b a).bad) ((squareI a).bad) ((rootI a).bad) ((cubeI a).bad) (signB a), p :=
  (ps_app (ps_cons (ivs_ok (by simp)) (ps_cons (neg_f hf) (ps_cons ⟨⟨_, rfl, fa⟩, hi⟩ (ps_cons ⟨⟨_, rfl, fa⟩, hk⟩ (ps_cons ⟨⟨_, rfl⟩, _, rfl⟩ ps_nil)))))
    (ps_app (ps_bif (fun hb0 => (ps_cons (neg_f hb0) ps_nil))
      (fun hb0 => (ps_cons (neg_t hb0) (ps_cons ⟨⟨_, rfl⟩, _, rfl⟩ (ps_cons ⟨⟨_, rfl⟩, _, rfl⟩ (ps_cons (neg_f (quot_mono hb0 (pt_in i k fa).1 fb (pt_in i k fa).2.1 (pt_in i k fa).2.2 (Int.le_refl _) (Int.le_refl _))) ps_nil))))))
    (ps_app (ps_cons ⟨⟨_, rfl⟩, _, rfl⟩ ps_nil)
    (ps_app (ps_bif (fun hb1 => (ps_cons (neg_f hb1) ps_nil))
      (fun hb1 => (ps_cons (neg_t hb1) (ps_cons ⟨⟨_, rfl⟩, _, rfl⟩ (ps_cons ⟨⟨_, rfl⟩, _, rfl⟩ (ps_cons (neg_f (quot_mono hb1 fb (pt_in i k fa).1 (Int.le_refl _) (Int.le_refl _) (pt_in i k fa).2.1 (pt_in i k fa).2.2)) ps_nil))))))
    (ps_app (ps_cons ⟨_, rfl⟩ ps_nil)
    (ps_app (ps_bif (fun hb2 => (ps_cons (neg_f hb2) ps_nil))
      (fun hb2 => (ps_cons (neg_t hb2) (ps_cons ⟨_, rfl⟩ (ps_cons ⟨⟨_, rfl⟩, _, rfl⟩ (ps_cons (neg_f (square_mono hb2 (pt_in i k fa).1 (pt_in i k fa).2.1 (pt_in i k fa).2.2)) ps_nil))))))
    (ps_app (ps_cons ⟨_, rfl⟩ ps_nil)
    (ps_app (ps_bif (fun hb3 => (ps_cons (neg_f hb3) ps_nil))
      (fun hb3 => (ps_cons (neg_t hb3) (ps_cons ⟨_, rfl⟩ (ps_cons ⟨⟨_, rfl⟩, _, rfl⟩ (ps_cons (neg_f (root_mono hb3 (pt_in i k fa).1 (pt_in i k fa).2.1 (pt_in i k fa).2.2)) ps_nil))))))
    (ps_app (ps_cons ⟨_, rfl⟩ ps_nil)
    (ps_app (ps_bif (fun hb4 => (ps_cons (neg_f hb4) ps_nil))
      (fun hb4 => (ps_cons (neg_t hb4) (ps_cons ⟨_, rfl⟩ (ps_cons ⟨⟨_, rfl⟩, _, rfl⟩ (ps_cons (neg_f (cube_mono hb4 (pt_in i k fa).1 (pt_in i k fa).2.1 (pt_in i k fa).2.2)) ps_nil))))))
    (ps_app (ps_cons ⟨_, rfl⟩ (ps_cons ⟨_, rfl⟩ ps_nil))
    (ps_app (ps_bif (fun hb5 => (ps_cons (neg_f hb5) (ps_cons (sign_part fa (pt_in i k fa).1 (pt_in i k fa).2.1 (pt_in i k fa).2.2 hb5).1 (ps_cons (beq_iff_eq.2 (sign_part fa (pt_in i k fa).1 (pt_in i k fa).2.1 (pt_in i k fa).2.2 hb5).2) ps_nil))))
      (fun hb5 => (ps_cons (neg_t hb5) ps_nil)))
    (ps_cons trivial ps_nil)))))))))))))
theorem ip0_run (a b : Iv) (i k : Int) : runF P EL 1 10 [I a, I b, .int .i64 i, .int .i64 k] (.lit :: (.b true :: [])) =
  some (.bool true, [fineP [ivs [a, b]], (!(fineL [a, b])) = true, wakesP []]) := by kernel_rfl
theorem InvParts_all (a b : Iv) {i k : Int} (hi : I64 i) (hk : I64 k) : Gives P 10 #[I a, I b, .int .i64 i, .int .i64 k] (.bool true) := by
  cases hf : fineL [a, b] with
  | false => exact gives_of_run mo (ip0_run a b i k) (ps_cons (ivs_ok (by simp)) (ps_cons (neg_t hf) (ps_cons trivial ps_nil))) rfl
  | true =>
    obtain ⟨fa, fb⟩ := fine2.1 hf
    exact gives_of_run mo (ip_run a b i k ((quotI a b).bad) ((quotI b a).bad) ((squareI a).bad) ((rootI a).bad) ((cubeI a).bad) (signB a)) (ip_ok a b hi hk hf fa fb) rfl
end Go.Nv
