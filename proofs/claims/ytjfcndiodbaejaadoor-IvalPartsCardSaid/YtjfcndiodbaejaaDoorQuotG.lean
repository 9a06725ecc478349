/-
  Contracts of package quot, seventh part: the floor by doubling: the loop. Printed by quotG.py.
-/
import Derived.Test.YtjfcndiodbaejaaDoorQuotF
set_option maxRecDepth 100000
namespace Go.Qt
open Go Go.RowKit Go.Sx Go.Nm Go.Wd Go.Proofs

def recOf (c : Code) (N : Nat) (ts : List (Nat × SV)) : LoopS :=
  match c with
  | .rangeFunc _ ps x y => ⟨.ready, none, ts, N, ps.toList, x, y⟩
  | _ => ⟨.ready, none, ts, N, [], .skip, .skip⟩
noncomputable def QP : Env P := ⟨⟨size :: shift :: wideC, []⟩, [], 10, []⟩
noncomputable def pBody : Code := bodyOf (innerOf P 140 0)
noncomputable def pRest : Code := (findLabel pBody 0).getD .skip
noncomputable def pRec (a b : Int) : LoopS := recOf (innerOf P 128 0) 34 [(10, .fn 140 [(7, 0), (8, 0)]), (9, .v (W b)), (8, .v (W a)), (5, .ptr 3 0), (4, .ptr 2 0), (3, .ptr 1 0), (2, .ptr 0 0), (0, .v (W a)), (1, .v (W b))]
noncomputable def pSt0 (a b : Int) : St := ⟨[(0, .yld 12), (1, .ptr 7 0), (2, .ptr 8 0)], [(8, (.whole (W b), 41)), (7, (.whole (W a), 41)), (3, (.whole (W 0), 41)), (2, (.whole (W 0), 41)), (1, (.whole (W b), 41)), (0, (.whole (W a), 41))], [(12, pRec a b)], [12, 8, 7, 3, 2, 1, 0], []⟩
noncomputable def pSt (a b n x q : Int) : St := ⟨[(4, .v (.int .i64 n)), (0, .yld 12), (1, .ptr 7 0), (2, .ptr 8 0)], [(8, (.whole (W b), 41)), (7, (.whole (W a), 41)), (3, (.whole (W 0), 41)), (2, (.whole (W q), 41)), (1, (.whole (W b), 41)), (0, (.whole (W x), 41))], [(12, pRec a b)], [12, 8, 7, 3, 2, 1, 0], []⟩
def n0 (a b : Int) : Int := IntKind.i64.wrap (bl (tI (W a) % MM) - (bl (tI (W b) % MM)))
noncomputable def pFin (a b y r : Int) : St := ⟨[(0, .yld 12), (1, .ptr 7 0), (2, .ptr 8 0)], [(8, (.whole (W b), 41)), (7, (.whole (W a), 41)), (3, (.whole (W 0), 41)), (2, (.whole (W r), 41)), (1, (.whole (W b), 41)), (0, (.whole (W y), 41))], [(12, pRec a b)], [12, 8, 7, 3, 2, 1, 0], []⟩
noncomputable def psA0 (a b n x q m y r : Int) : List Prop :=
    [(decide (n ≥ 0)) = true,
     shiftP [W b, .int .i64 n],
     P2 [W (tI (W b) * 2 ^ n.toNat), W x],
     (decide (cmp3 (tI (W (tI (W b) * 2 ^ n.toNat))) (tI (W x)) ≤ 0)) = true,
     P2 [W x, W (tI (W b) * 2 ^ n.toNat)],
     IntKind.i64.wrap (n.tdiv 64) = 0,
     0 ≤ n.tmod 64,
     IntKind.i64.wrap (n.tdiv 64) = 0,
     (.int .i64 (IntKind.i64.wrap (n - 1)) : Value) = .int .i64 m,
     (.yld 12 : SV) = .yld 12,
     (.ptr 7 0 : SV) = .ptr 7 0,
     (.ptr 8 0 : SV) = .ptr 8 0,
     (W b : Value) = W b,
     (W a : Value) = W a,
     (W 0 : Value) = W 0,
     (.int .u64 (bitW (w0 q) n) : Value) = .int .u64 (w0 r),
     (.int .u64 (w1 q) : Value) = .int .u64 (w1 r),
     (.int .u64 (w2 q) : Value) = .int .u64 (w2 r),
     (.int .u64 (w3 q) : Value) = .int .u64 (w3 r),
     (W b : Value) = W b,
     (W (tI (W x) - tI (W (tI (W b) * 2 ^ n.toNat))) : Value) = W y,
     pRec a b = pRec a b]
theorem runA0 (a b n x q m y r : Int) (k : Nat) : stepF P QP 6 22 pRest (pSt a b n x q) (.b true :: (.b true :: (.n 0 :: (.n 0 :: [])))) 1000 (fun _ => some (pSt a b m y r)) k = some (.goto 0, k, psA0 a b n x q m y r) := by kernel_rfl
theorem iniA0 (a b m y r : Int) (k : Nat) : stepF P QP 6 22 pBody (pSt0 a b) (.b true :: (.b true :: (.n 0 :: (.n 0 :: [])))) 1000 (fun _ => some (pSt a b m y r)) k = some (.goto 0, k, P1 [W a] :: P1 [W b] :: psA0 a b (n0 a b) a 0 m y r) := by kernel_rfl
noncomputable def psA1 (a b n x q m y r : Int) : List Prop :=
    [(decide (n ≥ 0)) = true,
     shiftP [W b, .int .i64 n],
     P2 [W (tI (W b) * 2 ^ n.toNat), W x],
     (decide (cmp3 (tI (W (tI (W b) * 2 ^ n.toNat))) (tI (W x)) ≤ 0)) = true,
     P2 [W x, W (tI (W b) * 2 ^ n.toNat)],
     IntKind.i64.wrap (n.tdiv 64) = 1,
     0 ≤ n.tmod 64,
     IntKind.i64.wrap (n.tdiv 64) = 1,
     (.int .i64 (IntKind.i64.wrap (n - 1)) : Value) = .int .i64 m,
     (.yld 12 : SV) = .yld 12,
     (.ptr 7 0 : SV) = .ptr 7 0,
     (.ptr 8 0 : SV) = .ptr 8 0,
     (W b : Value) = W b,
     (W a : Value) = W a,
     (W 0 : Value) = W 0,
     (.int .u64 (w0 q) : Value) = .int .u64 (w0 r),
     (.int .u64 (bitW (w1 q) n) : Value) = .int .u64 (w1 r),
     (.int .u64 (w2 q) : Value) = .int .u64 (w2 r),
     (.int .u64 (w3 q) : Value) = .int .u64 (w3 r),
     (W b : Value) = W b,
     (W (tI (W x) - tI (W (tI (W b) * 2 ^ n.toNat))) : Value) = W y,
     pRec a b = pRec a b]
theorem runA1 (a b n x q m y r : Int) (k : Nat) : stepF P QP 6 22 pRest (pSt a b n x q) (.b true :: (.b true :: (.n 1 :: (.n 1 :: [])))) 1000 (fun _ => some (pSt a b m y r)) k = some (.goto 0, k, psA1 a b n x q m y r) := by kernel_rfl
theorem iniA1 (a b m y r : Int) (k : Nat) : stepF P QP 6 22 pBody (pSt0 a b) (.b true :: (.b true :: (.n 1 :: (.n 1 :: [])))) 1000 (fun _ => some (pSt a b m y r)) k = some (.goto 0, k, P1 [W a] :: P1 [W b] :: psA1 a b (n0 a b) a 0 m y r) := by kernel_rfl
noncomputable def psA2 (a b n x q m y r : Int) : List Prop :=
    [(decide (n ≥ 0)) = true,
     shiftP [W b, .int .i64 n],
     P2 [W (tI (W b) * 2 ^ n.toNat), W x],
     (decide (cmp3 (tI (W (tI (W b) * 2 ^ n.toNat))) (tI (W x)) ≤ 0)) = true,
     P2 [W x, W (tI (W b) * 2 ^ n.toNat)],
     IntKind.i64.wrap (n.tdiv 64) = 2,
     0 ≤ n.tmod 64,
     IntKind.i64.wrap (n.tdiv 64) = 2,
     (.int .i64 (IntKind.i64.wrap (n - 1)) : Value) = .int .i64 m,
     (.yld 12 : SV) = .yld 12,
     (.ptr 7 0 : SV) = .ptr 7 0,
     (.ptr 8 0 : SV) = .ptr 8 0,
     (W b : Value) = W b,
     (W a : Value) = W a,
     (W 0 : Value) = W 0,
     (.int .u64 (w0 q) : Value) = .int .u64 (w0 r),
     (.int .u64 (w1 q) : Value) = .int .u64 (w1 r),
     (.int .u64 (bitW (w2 q) n) : Value) = .int .u64 (w2 r),
     (.int .u64 (w3 q) : Value) = .int .u64 (w3 r),
     (W b : Value) = W b,
     (W (tI (W x) - tI (W (tI (W b) * 2 ^ n.toNat))) : Value) = W y,
     pRec a b = pRec a b]
theorem runA2 (a b n x q m y r : Int) (k : Nat) : stepF P QP 6 22 pRest (pSt a b n x q) (.b true :: (.b true :: (.n 2 :: (.n 2 :: [])))) 1000 (fun _ => some (pSt a b m y r)) k = some (.goto 0, k, psA2 a b n x q m y r) := by kernel_rfl
theorem iniA2 (a b m y r : Int) (k : Nat) : stepF P QP 6 22 pBody (pSt0 a b) (.b true :: (.b true :: (.n 2 :: (.n 2 :: [])))) 1000 (fun _ => some (pSt a b m y r)) k = some (.goto 0, k, P1 [W a] :: P1 [W b] :: psA2 a b (n0 a b) a 0 m y r) := by kernel_rfl
noncomputable def psA3 (a b n x q m y r : Int) : List Prop :=
    [(decide (n ≥ 0)) = true,
     shiftP [W b, .int .i64 n],
     P2 [W (tI (W b) * 2 ^ n.toNat), W x],
     (decide (cmp3 (tI (W (tI (W b) * 2 ^ n.toNat))) (tI (W x)) ≤ 0)) = true,
     P2 [W x, W (tI (W b) * 2 ^ n.toNat)],
     IntKind.i64.wrap (n.tdiv 64) = 3,
     0 ≤ n.tmod 64,
     IntKind.i64.wrap (n.tdiv 64) = 3,
     (.int .i64 (IntKind.i64.wrap (n - 1)) : Value) = .int .i64 m,
     (.yld 12 : SV) = .yld 12,
     (.ptr 7 0 : SV) = .ptr 7 0,
     (.ptr 8 0 : SV) = .ptr 8 0,
     (W b : Value) = W b,
     (W a : Value) = W a,
     (W 0 : Value) = W 0,
     (.int .u64 (w0 q) : Value) = .int .u64 (w0 r),
     (.int .u64 (w1 q) : Value) = .int .u64 (w1 r),
     (.int .u64 (w2 q) : Value) = .int .u64 (w2 r),
     (.int .u64 (bitW (w3 q) n) : Value) = .int .u64 (w3 r),
     (W b : Value) = W b,
     (W (tI (W x) - tI (W (tI (W b) * 2 ^ n.toNat))) : Value) = W y,
     pRec a b = pRec a b]
theorem runA3 (a b n x q m y r : Int) (k : Nat) : stepF P QP 6 22 pRest (pSt a b n x q) (.b true :: (.b true :: (.n 3 :: (.n 3 :: [])))) 1000 (fun _ => some (pSt a b m y r)) k = some (.goto 0, k, psA3 a b n x q m y r) := by kernel_rfl
theorem iniA3 (a b m y r : Int) (k : Nat) : stepF P QP 6 22 pBody (pSt0 a b) (.b true :: (.b true :: (.n 3 :: (.n 3 :: [])))) 1000 (fun _ => some (pSt a b m y r)) k = some (.goto 0, k, P1 [W a] :: P1 [W b] :: psA3 a b (n0 a b) a 0 m y r) := by kernel_rfl
noncomputable def psB (a b n x q m y r : Int) : List Prop :=
    [(decide (n ≥ 0)) = true,
     shiftP [W b, .int .i64 n],
     P2 [W (tI (W b) * 2 ^ n.toNat), W x],
     (decide (cmp3 (tI (W (tI (W b) * 2 ^ n.toNat))) (tI (W x)) ≤ 0)) = false,
     (.int .i64 (IntKind.i64.wrap (n - 1)) : Value) = .int .i64 m,
     (.yld 12 : SV) = .yld 12,
     (.ptr 7 0 : SV) = .ptr 7 0,
     (.ptr 8 0 : SV) = .ptr 8 0,
     (W b : Value) = W b,
     (W a : Value) = W a,
     (W 0 : Value) = W 0,
     (W q : Value) = W r,
     (W b : Value) = W b,
     (W x : Value) = W y,
     pRec a b = pRec a b]
theorem runB (a b n x q m y r : Int) (k : Nat) : stepF P QP 6 22 pRest (pSt a b n x q) (.b true :: (.b false :: [])) 1000 (fun _ => some (pSt a b m y r)) k = some (.goto 0, k, psB a b n x q m y r) := by kernel_rfl
theorem iniB (a b m y r : Int) (k : Nat) : stepF P QP 6 22 pBody (pSt0 a b) (.b true :: (.b false :: [])) 1000 (fun _ => some (pSt a b m y r)) k = some (.goto 0, k, P1 [W a] :: P1 [W b] :: psB a b (n0 a b) a 0 m y r) := by kernel_rfl
noncomputable def psX (a b n x q _m y r : Int) : List Prop :=
    [(decide (n ≥ 0)) = false,
     (.yld 12 : SV) = .yld 12,
     (.ptr 7 0 : SV) = .ptr 7 0,
     (.ptr 8 0 : SV) = .ptr 8 0,
     (W b : Value) = W b,
     (W a : Value) = W a,
     (W 0 : Value) = W 0,
     (W q : Value) = W r,
     (W b : Value) = W b,
     (W x : Value) = W y,
     pRec a b = pRec a b]
theorem runX (a b n x q m y r : Int) (k : Nat) : stepF P QP 6 22 pRest (pSt a b n x q) (.b false :: []) 1000 (fun _ => some (pFin a b y r)) k = some (.normal, k, psX a b n x q m y r) := by kernel_rfl
theorem iniX (a b m y r : Int) (k : Nat) : stepF P QP 6 22 pBody (pSt0 a b) (.b false :: []) 1000 (fun _ => some (pFin a b y r)) k = some (.normal, k, P1 [W a] :: P1 [W b] :: psX a b (n0 a b) a 0 m y r) := by kernel_rfl

/-! ### What holds of the loop -/
theorem emod_le {a b : Int} (ha : 0 ≤ a) (hb : 0 < b) : a % b ≤ a := by
  have e := Int.mul_ediv_add_emod a b
  have := Int.mul_nonneg (Int.le_of_lt hb) (Int.ediv_nonneg ha (Int.le_of_lt hb))
  omega
def At (a b n x q : Int) : Prop := x = a % (b * 2 ^ (n + 1).toNat) ∧ q = a / (b * 2 ^ (n + 1).toNat) * 2 ^ (n + 1).toNat
section
variable {a b n x q : Int} (ha : 0 ≤ a ∧ a < HH) (hb : 0 < b ∧ b < HH) (hn : 0 ≤ n ∧ n ≤ bl a - bl b) (hi : At a b n x q)
include ha hb hn hi
theorem at_x : InR x ∧ InR b ∧ InR (b * 2 ^ n.toNat) ∧ n ≤ 254 ∧ 0 < b * 2 ^ n.toNat ∧ (n + 1).toNat = n.toNat + 1 ∧ b * 2 ^ (n.toNat + 1) = 2 * (b * 2 ^ n.toNat) := by
  have h1 := shifted ha.1 ha.2 hb.1 hn.1 hn.2
  have h2 := bl_255 ha.1 ha.2
  have h3 := (bl_ge hb.1).1
  have h4 : 0 < b * 2 ^ n.toNat := Int.mul_pos hb.1 (pow2_pos _)
  have e : b * 2 ^ (n.toNat + 1) = 2 * (b * 2 ^ n.toNat) := by rw [Int.pow_succ, ← Int.mul_assoc, Int.mul_comm]
  have e2 : (n + 1).toNat = n.toNat + 1 := by omega
  have h5 : 0 < b * 2 ^ (n.toNat + 1) := by omega
  have hx := hi.1
  rw [e2] at hx
  have r0 := Int.emod_nonneg a (b := b * 2 ^ (n.toNat + 1)) (by omega)
  have r1 : a % (b * 2 ^ (n.toNat + 1)) ≤ a := emod_le ha.1 h5
  unfold InR
  refine ⟨by omega, by omega, by omega, by omega, h4, e2, e⟩
theorem at_c : (decide (cmp3 (tI (W (tI (W b) * 2 ^ n.toNat))) (tI (W x)) ≤ 0)) = decide (b * 2 ^ n.toNat ≤ x) := by
  obtain ⟨h1, h2, h3, _⟩ := at_x ha hb hn hi
  rw [tI_in h2, tI_in h3, tI_in h1, decide_eq_decide]
  unfold cmp3
  omega
theorem at_b (h : ¬ b * 2 ^ n.toNat ≤ x) : At a b (n - 1) x q := by
  obtain ⟨h1, h2, h3, h4, h5, h6, h7⟩ := at_x ha hb hn hi
  obtain ⟨i1, i2⟩ := hi
  rw [h6, h7] at i1 i2
  rw [i1] at h
  obtain ⟨e1, e2⟩ := (div_step (a := a) h5).2 h
  have e3 : (n - 1 + 1).toNat = n.toNat := by omega
  refine ⟨by rw [e3, e1, i1], ?_⟩
  rw [e3, e2, i2, Int.pow_succ, Int.mul_comm (2 ^ n.toNat) 2, ← Int.mul_assoc, Int.mul_comm _ 2]
theorem at_a (h : b * 2 ^ n.toNat ≤ x) : At a b (n - 1) (x - b * 2 ^ n.toNat) (q + 2 ^ n.toNat) ∧ 0 ≤ q := by
  obtain ⟨h1, h2, h3, h4, h5, h6, h7⟩ := at_x ha hb hn hi
  obtain ⟨i1, i2⟩ := hi
  rw [h6, h7] at i1 i2
  rw [i1] at h
  obtain ⟨e1, e2⟩ := (div_step (a := a) h5).1 h
  have e3 : (n - 1 + 1).toNat = n.toNat := by omega
  refine ⟨⟨by rw [e3, e1, i1], ?_⟩, ?_⟩
  · rw [e3, e2, i2, Int.pow_succ, Int.mul_comm (2 ^ n.toNat) 2, ← Int.mul_assoc, Int.mul_comm _ 2, Int.add_mul, Int.one_mul]
  · rw [i2]
    exact Int.mul_nonneg (Int.ediv_nonneg ha.1 (by omega)) (Int.le_of_lt (pow2_pos _))
theorem okA0 (hj : n / 64 = 0) (h : b * 2 ^ n.toNat ≤ x) : ∀ p ∈ psA0 a b n x q (n - 1) (x - b * 2 ^ n.toNat) (q + 2 ^ n.toNat), p := by
  obtain ⟨g1, g2, g3, g4, g5, g6, g7⟩ := at_x ha hb hn hi
  have hq := hi.2
  rw [g6] at hq
  obtain ⟨f0, f1, f2, f3⟩ := setbit0 hn.1 hj hq rfl (at_a ha hb hn hi h).2
  exact (ps_cons (decide_eq_true hn.1) (ps_cons ⟨⟨_, rfl⟩, hn.1, by omega⟩ (ps_cons (P2_W _ _) (ps_cons ((at_c ha hb hn hi).trans (decide_eq_true h)) (ps_cons (P2_W _ _) (ps_cons (td hn.1 (by omega) hj) (ps_cons (tm0 hn.1) (ps_cons (td hn.1 (by omega) hj) (ps_cons (by rw [wrap_i64_in (by omega) (by omega)]) (ps_cons rfl (ps_cons rfl (ps_cons rfl (ps_cons rfl (ps_cons rfl (ps_cons rfl (ps_cons (by rw [f0]) (ps_cons (by rw [f1]) (ps_cons (by rw [f2]) (ps_cons (by rw [f3]) (ps_cons rfl (ps_cons (by rw [tI_in g2, tI_in g3, tI_in g1]) (ps_cons rfl ps_nil))))))))))))))))))))))
theorem okA1 (hj : n / 64 = 1) (h : b * 2 ^ n.toNat ≤ x) : ∀ p ∈ psA1 a b n x q (n - 1) (x - b * 2 ^ n.toNat) (q + 2 ^ n.toNat), p := by
  obtain ⟨g1, g2, g3, g4, g5, g6, g7⟩ := at_x ha hb hn hi
  have hq := hi.2
  rw [g6] at hq
  obtain ⟨f0, f1, f2, f3⟩ := setbit1 hn.1 hj hq rfl (at_a ha hb hn hi h).2
  exact (ps_cons (decide_eq_true hn.1) (ps_cons ⟨⟨_, rfl⟩, hn.1, by omega⟩ (ps_cons (P2_W _ _) (ps_cons ((at_c ha hb hn hi).trans (decide_eq_true h)) (ps_cons (P2_W _ _) (ps_cons (td hn.1 (by omega) hj) (ps_cons (tm0 hn.1) (ps_cons (td hn.1 (by omega) hj) (ps_cons (by rw [wrap_i64_in (by omega) (by omega)]) (ps_cons rfl (ps_cons rfl (ps_cons rfl (ps_cons rfl (ps_cons rfl (ps_cons rfl (ps_cons (by rw [f0]) (ps_cons (by rw [f1]) (ps_cons (by rw [f2]) (ps_cons (by rw [f3]) (ps_cons rfl (ps_cons (by rw [tI_in g2, tI_in g3, tI_in g1]) (ps_cons rfl ps_nil))))))))))))))))))))))
theorem okA2 (hj : n / 64 = 2) (h : b * 2 ^ n.toNat ≤ x) : ∀ p ∈ psA2 a b n x q (n - 1) (x - b * 2 ^ n.toNat) (q + 2 ^ n.toNat), p := by
  obtain ⟨g1, g2, g3, g4, g5, g6, g7⟩ := at_x ha hb hn hi
  have hq := hi.2
  rw [g6] at hq
  obtain ⟨f0, f1, f2, f3⟩ := setbit2 hn.1 hj hq rfl (at_a ha hb hn hi h).2
  exact (ps_cons (decide_eq_true hn.1) (ps_cons ⟨⟨_, rfl⟩, hn.1, by omega⟩ (ps_cons (P2_W _ _) (ps_cons ((at_c ha hb hn hi).trans (decide_eq_true h)) (ps_cons (P2_W _ _) (ps_cons (td hn.1 (by omega) hj) (ps_cons (tm0 hn.1) (ps_cons (td hn.1 (by omega) hj) (ps_cons (by rw [wrap_i64_in (by omega) (by omega)]) (ps_cons rfl (ps_cons rfl (ps_cons rfl (ps_cons rfl (ps_cons rfl (ps_cons rfl (ps_cons (by rw [f0]) (ps_cons (by rw [f1]) (ps_cons (by rw [f2]) (ps_cons (by rw [f3]) (ps_cons rfl (ps_cons (by rw [tI_in g2, tI_in g3, tI_in g1]) (ps_cons rfl ps_nil))))))))))))))))))))))
theorem okA3 (hj : n / 64 = 3) (h : b * 2 ^ n.toNat ≤ x) : ∀ p ∈ psA3 a b n x q (n - 1) (x - b * 2 ^ n.toNat) (q + 2 ^ n.toNat), p := by
  obtain ⟨g1, g2, g3, g4, g5, g6, g7⟩ := at_x ha hb hn hi
  have hq := hi.2
  rw [g6] at hq
  obtain ⟨f0, f1, f2, f3⟩ := setbit3 hn.1 hj hq rfl (at_a ha hb hn hi h).2
  exact (ps_cons (decide_eq_true hn.1) (ps_cons ⟨⟨_, rfl⟩, hn.1, by omega⟩ (ps_cons (P2_W _ _) (ps_cons ((at_c ha hb hn hi).trans (decide_eq_true h)) (ps_cons (P2_W _ _) (ps_cons (td hn.1 (by omega) hj) (ps_cons (tm0 hn.1) (ps_cons (td hn.1 (by omega) hj) (ps_cons (by rw [wrap_i64_in (by omega) (by omega)]) (ps_cons rfl (ps_cons rfl (ps_cons rfl (ps_cons rfl (ps_cons rfl (ps_cons rfl (ps_cons (by rw [f0]) (ps_cons (by rw [f1]) (ps_cons (by rw [f2]) (ps_cons (by rw [f3]) (ps_cons rfl (ps_cons (by rw [tI_in g2, tI_in g3, tI_in g1]) (ps_cons rfl ps_nil))))))))))))))))))))))
theorem okB (h : ¬ b * 2 ^ n.toNat ≤ x) : ∀ p ∈ psB a b n x q (n - 1) x q, p := by
  obtain ⟨g1, g2, g3, g4, g5, g6, g7⟩ := at_x ha hb hn hi
  exact (ps_cons (decide_eq_true hn.1) (ps_cons ⟨⟨_, rfl⟩, hn.1, by omega⟩ (ps_cons (P2_W _ _) (ps_cons ((at_c ha hb hn hi).trans (decide_eq_false h)) (ps_cons (by rw [wrap_i64_in (by omega) (by omega)]) (ps_cons rfl (ps_cons rfl (ps_cons rfl (ps_cons rfl (ps_cons rfl (ps_cons rfl (ps_cons rfl (ps_cons rfl (ps_cons rfl (ps_cons rfl ps_nil)))))))))))))))
end
theorem okX {a b n x q : Int} (h : n < 0) : ∀ p ∈ psX a b n x q 0 x q, p :=
  ps_cons (decide_eq_false (by omega)) (ps_cons rfl (ps_cons rfl (ps_cons rfl (ps_cons rfl (ps_cons rfl (ps_cons rfl (ps_cons rfl (ps_cons rfl (ps_cons rfl (ps_cons rfl ps_nil))))))))))

def pInv (a b : Int) (g : Int × Int × Int) : Prop := -1 ≤ g.1 ∧ g.1 ≤ bl a - bl b ∧ At a b g.1 g.2.1 g.2.2
noncomputable def pG (a b : Int) (g : Int × Int × Int) : St := pSt a b g.1 g.2.1 g.2.2
theorem j4 {n : Int} (h : 0 ≤ n) (h2 : n ≤ 254) : n / 64 = 0 ∨ n / 64 = 1 ∨ n / 64 = 2 ∨ n / 64 = 3 := by omega
theorem at_end {a b n x q : Int} (h : At a b n x q) (hn : n < 0) : x = a % b ∧ q = a / b := by
  unfold At at h
  rw [show (n + 1).toNat = 0 by omega] at h
  simpa using h
theorem p_step {a b : Int} (ha : 0 ≤ a ∧ a < HH) (hb : 0 < b ∧ b < HH) (g : Int × Int × Int) (hg : pInv a b g) :
    StepTo P QP 6 22 pRest (pG a b g) fun o S1 => (o = .goto 0 ∧ ∃ g', pInv a b g' ∧ (g'.1 + 1).toNat < (g.1 + 1).toNat ∧ Keeps S1 (pG a b g')) ∨ (o = .normal ∧ Keeps S1 (pFin a b (a % b) (a / b))) := by
  obtain ⟨n, x, q⟩ := g
  obtain ⟨h1, h2, h3⟩ := hg
  by_cases hn : n < 0
  · obtain ⟨rfl, rfl⟩ := at_end h3 hn
    exact step_run (runX a b n _ _ 0 _ _) (okX hn) rfl fun S1 hk => .inr ⟨rfl, hk⟩
  · have hn' : 0 ≤ n ∧ n ≤ bl a - bl b := ⟨by omega, h2⟩
    obtain ⟨_, _, _, g4, _⟩ := at_x ha hb hn' h3
    by_cases h : b * 2 ^ n.toNat ≤ x
    · have i := (at_a ha hb hn' h3 h).1
      have fin : ∀ S1, Keeps S1 (pSt a b (n - 1) (x - b * 2 ^ n.toNat) (q + 2 ^ n.toNat)) → (Out.goto 0 = .goto 0 ∧ ∃ g', pInv a b g' ∧ (g'.1 + 1).toNat < (n + 1).toNat ∧ Keeps S1 (pG a b g')) ∨ (Out.goto 0 = .normal ∧ Keeps S1 (pFin a b (a % b) (a / b))) :=
        fun S1 hk => .inl ⟨rfl, (n - 1, x - b * 2 ^ n.toNat, q + 2 ^ n.toNat), ⟨by show -1 ≤ n - 1; omega, by show n - 1 ≤ _; omega, i⟩, by show (n - 1 + 1).toNat < (n + 1).toNat; omega, hk⟩
      rcases j4 hn'.1 g4 with hj | hj | hj | hj
      · exact step_run (runA0 a b n x q _ _ _) (okA0 ha hb hn' h3 hj h) rfl fin
      · exact step_run (runA1 a b n x q _ _ _) (okA1 ha hb hn' h3 hj h) rfl fin
      · exact step_run (runA2 a b n x q _ _ _) (okA2 ha hb hn' h3 hj h) rfl fin
      · exact step_run (runA3 a b n x q _ _ _) (okA3 ha hb hn' h3 hj h) rfl fin
    · have i := at_b ha hb hn' h3 h
      exact step_run (runB a b n x q _ _ _) (okB ha hb hn' h3 h) rfl fun S1 hk => .inl ⟨rfl, (n - 1, x, q), ⟨by show -1 ≤ n - 1; omega, by show n - 1 ≤ _; omega, i⟩, by show (n - 1 + 1).toNat < (n + 1).toNat; omega, hk⟩
theorem at_begin {a b : Int} (ha : 0 ≤ a ∧ a < HH) (hb : 0 < b ∧ b < HH) : n0 a b = bl a - bl b ∧ At a b (n0 a b) a 0 ∧ (n0 a b < 0 → a = a % b ∧ 0 = a / b) := by
  have e1 : tI (W a) % MM = a := by rw [tI_in (by unfold InR; omega), Int.emod_eq_of_lt ha.1 (by simp only [MM, HH] at *; omega)]
  have e2 : tI (W b) % MM = b := by rw [tI_in (by unfold InR; omega), Int.emod_eq_of_lt (by omega) (by simp only [MM, HH] at *; omega)]
  have l1 := bl_255 ha.1 ha.2
  have l2 := bl_255 (Int.le_of_lt hb.1) hb.2
  have l3 := bl_nonneg a
  have l4 := bl_nonneg b
  have e : n0 a b = bl a - bl b := by unfold n0; rw [e1, e2, wrap_i64_in (by omega) (by omega)]
  refine ⟨e, ?_, fun hlt => ?_⟩
  · rw [e]
    have hlt : a < b * 2 ^ (bl a - bl b + 1).toNat := by
      by_cases hn : 0 ≤ bl a - bl b
      · rw [show (bl a - bl b + 1).toNat = (bl a - bl b).toNat + 1 by omega]
        exact reach ha.1 hb.1 hn
      · rw [show (bl a - bl b + 1).toNat = 0 by omega]
        have := reach0 ha.1 hb.1 (by omega)
        simpa using this
    refine ⟨(Int.emod_eq_of_lt ha.1 hlt).symm, ?_⟩
    rw [Int.ediv_eq_zero_of_lt ha.1 hlt, Int.zero_mul]
  · rw [e] at hlt
    have := reach0 ha.1 hb.1 hlt
    exact ⟨(Int.emod_eq_of_lt ha.1 this).symm, (Int.ediv_eq_zero_of_lt ha.1 this).symm⟩
theorem p_step0 {a b : Int} (ha : 0 ≤ a ∧ a < HH) (hb : 0 < b ∧ b < HH) :
    StepTo P QP 6 22 pBody (pSt0 a b) fun o S1 => (o = .goto 0 ∧ ∃ g', pInv a b g' ∧ Keeps S1 (pG a b g')) ∨ (o = .normal ∧ Keeps S1 (pFin a b (a % b) (a / b))) := by
  obtain ⟨e, h3, hlast⟩ := at_begin ha hb
  have pp : ∀ {l : List Prop}, (∀ p ∈ l, p) → ∀ p ∈ P1 [W a] :: P1 [W b] :: l, p := fun h => ps_cons (P1_W _) (ps_cons (P1_W _) h)
  by_cases hn : n0 a b < 0
  · obtain ⟨g1, g2⟩ := hlast hn
    have := step_run (iniX a b 0 a 0) (pp (okX hn)) rfl (good := fun o S1 => (o = .goto 0 ∧ ∃ g', pInv a b g' ∧ Keeps S1 (pG a b g')) ∨ (o = .normal ∧ Keeps S1 (pFin a b (a % b) (a / b)))) fun S1 hk => .inr ⟨rfl, by rw [← g1, ← g2]; exact hk⟩
    exact this
  · have hn' : 0 ≤ n0 a b ∧ n0 a b ≤ bl a - bl b := ⟨by omega, by omega⟩
    obtain ⟨_, _, _, g4, _⟩ := at_x ha hb hn' h3
    by_cases h : b * 2 ^ (n0 a b).toNat ≤ a
    · have i := (at_a ha hb hn' h3 h).1
      have fin : ∀ S1, Keeps S1 (pSt a b (n0 a b - 1) (a - b * 2 ^ (n0 a b).toNat) (0 + 2 ^ (n0 a b).toNat)) → (Out.goto 0 = .goto 0 ∧ ∃ g', pInv a b g' ∧ Keeps S1 (pG a b g')) ∨ (Out.goto 0 = .normal ∧ Keeps S1 (pFin a b (a % b) (a / b))) :=
        fun S1 hk => .inl ⟨rfl, (n0 a b - 1, a - b * 2 ^ (n0 a b).toNat, 0 + 2 ^ (n0 a b).toNat), ⟨by show -1 ≤ n0 a b - 1; omega, by show n0 a b - 1 ≤ _; omega, i⟩, hk⟩
      rcases j4 hn'.1 g4 with hj | hj | hj | hj
      · exact step_run (iniA0 a b _ _ _) (pp (okA0 ha hb hn' h3 hj h)) rfl fin
      · exact step_run (iniA1 a b _ _ _) (pp (okA1 ha hb hn' h3 hj h)) rfl fin
      · exact step_run (iniA2 a b _ _ _) (pp (okA2 ha hb hn' h3 hj h)) rfl fin
      · exact step_run (iniA3 a b _ _ _) (pp (okA3 ha hb hn' h3 hj h)) rfl fin
    · have i := at_b ha hb hn' h3 h
      exact step_run (iniB a b _ _ _) (pp (okB ha hb hn' h3 h)) rfl fun S1 hk => .inl ⟨rfl, (n0 a b - 1, a, 0), ⟨by show -1 ≤ n0 a b - 1; omega, by show n0 a b - 1 ≤ _; omega, i⟩, hk⟩
noncomputable def pLoop (a b : Int) (ha : 0 ≤ a ∧ a < HH) (hb : 0 < b ∧ b < HH) : CodeC P :=
  scopeC mo QP (by rfl) 6 22 pBody pRest 0 (by kernel_rfl) [12, 8, 7, 3, 2, 1, 0] (pSt0 a b) (pG a b) (pInv a b) (fun g => (g.1 + 1).toNat) .normal (pFin a b (a % b) (a / b)) (fun _ => by simp) rfl (fun _ => rfl) rfl (by kernel_rfl) (fun _ => by kernel_rfl) (by kernel_rfl) [] rfl (fun _ => rfl) rfl
    (p_step0 ha hb) (p_step ha hb)
noncomputable def QL (a b : Int) (ha : 0 ≤ a ∧ a < HH) (hb : 0 < b ∧ b < HH) : Env P := ⟨⟨[], []⟩, [pLoop a b ha hb], 10, []⟩
theorem plain_run (a b : Int) (ha : 0 ≤ a ∧ a < HH) (hb : 0 < b ∧ b < HH) : runF P (QL a b ha hb) 2 128 [W a, W b] (.lit :: (.n 0 :: [])) =
  some (.tuple #[W (a / b), W (a % b)],
    [Code.scope pBody = innerOf P 140 0,
     (.yld 12 : SV) = .yld 12,
     (.ptr 7 0 : SV) = .ptr 7 0,
     (.ptr 8 0 : SV) = .ptr 8 0,
     (W b : Value) = W b,
     (W a : Value) = W a,
     (W 0 : Value) = W 0,
     (W 0 : Value) = W 0,
     (W b : Value) = W b,
     (W a : Value) = W a,
     pRec a b = pRec a b]) := by kernel_rfl
def plainP : List Value → Prop
  | [x, y] => IsW x ∧ IsW y ∧ 0 ≤ tI x ∧ 0 < tI y
  | _ => False
def plainV : List Value → Value
  | [x, y] => .tuple #[W (tI x / tI y), W (tI x % tI y)]
  | _ => undef
theorem isW_in {x : Value} (h : IsW x) : x = W (tI x) ∧ InR (tI x) := by
  obtain ⟨n, rfl⟩ := h
  rw [tI_W]
  exact ⟨(W_congr (bm_mod n)).symm, bm_range n⟩
theorem plain_gives (args : List Value) (h : plainP args) : Gives P 128 args.toArray (plainV args) := by
  unfold plainP at h
  split at h
  · rename_i x y
    obtain ⟨hx, hy, h1, h2⟩ := h
    obtain ⟨ex, rx⟩ := isW_in hx
    obtain ⟨ey, ry⟩ := isW_in hy
    have := gives_of_run (u := .tuple #[W (tI x / tI y), W (tI x % tI y)]) mo (plain_run (tI x) (tI y) ⟨h1, rx.2⟩ ⟨h2, ry.2⟩) (ps_cons (by kernel_rfl) (ps_cons rfl (ps_cons rfl (ps_cons rfl (ps_cons rfl (ps_cons rfl (ps_cons rfl (ps_cons rfl (ps_cons rfl (ps_cons rfl (ps_cons rfl ps_nil))))))))))) rfl
    rw [← ex, ← ey] at this
    exact this
  · exact h.elim
noncomputable def plain : Ctr P := ⟨128, plainP, plainV, plain_gives⟩
end Go.Qt
