/-
  Contracts of package wide's functions, second part.
-/
import Derived.Test.YtjfcndiodbaejaaDoorWideA
set_option maxRecDepth 100000
namespace Go.Wd
open Go Go.RowKit Go.Sx Go.Nm Go.Proofs

noncomputable def E1 : Env P := ⟨[add64, low, plus], [], 10, []⟩

/-! ### not -/
theorem xor_word {n : Int} (h : 0 ≤ n) (h2 : n < BB) : IntKind.u64.wrap ↑(BitVec.ofInt 64 IntKind.u64.max ^^^ BitVec.ofInt 64 n).toNat = BB - 1 - n := by
  have e1 : BitVec.ofInt 64 IntKind.u64.max = BitVec.allOnes 64 := by decide
  rw [e1, BitVec.allOnes_xor, BitVec.toNat_not, BitVec.toNat_ofInt, wrap_u64]
  simp only [BB] at *
  omega

theorem not_run (n : Int) : runF P E1 1 136 [W n] [] =
    some (.agg #[.int .u64 (IntKind.u64.wrap ↑(BitVec.ofInt 64 IntKind.u64.max ^^^ BitVec.ofInt 64 (w0 n)).toNat), .int .u64 (IntKind.u64.wrap ↑(BitVec.ofInt 64 IntKind.u64.max ^^^ BitVec.ofInt 64 (w1 n)).toNat),
      .int .u64 (IntKind.u64.wrap ↑(BitVec.ofInt 64 IntKind.u64.max ^^^ BitVec.ofInt 64 (w2 n)).toNat), .int .u64 (IntKind.u64.wrap ↑(BitVec.ofInt 64 IntKind.u64.max ^^^ BitVec.ofInt 64 (w3 n)).toNat)], []) := by kernel_rfl

def notV : List Value → Value
  | [x] => W (-1 - tI x)
  | _ => undef

theorem not_gives (args : List Value) (h : P1 args) : Gives P 136 args.toArray (notV args) := by
  unfold P1 at h
  split at h
  · obtain ⟨n, rfl⟩ := h
    refine gives_of_run mo (not_run n) ps_nil ?_
    have e := words_sum n
    have r0 := w0_range n
    have r1 := w1_range n
    have r2 := w2_range n
    have r3 := w3_range n
    have hb := bm_mod n
    rw [xor_word r0.1 r0.2, xor_word r1.1 r1.2, xor_word r2.1 r2.2, xor_word r3.1 r3.2]
    simp only [notV, tI_W]
    refine W_of ?_ ?_ ?_ ?_ ?_ ?_ ?_ ?_ ?_ <;> simp only [BB, B2, B3, MM] at * <;> omega
  · exact h.elim

noncomputable def not : Ctr P := ⟨136, P1, notV, not_gives⟩

/-! ### Of -/
def I64 (n : Int) : Prop := -9223372036854775808 ≤ n ∧ n < 9223372036854775808
def ofP : List Value → Prop
  | [.int .i64 n] => I64 n
  | _ => False
def ofV : List Value → Value
  | [.int _ n] => W n
  | _ => undef

theorem of_run (n : Int) : runF P E1 1 72 [.int .i64 n] [] =
    some (.agg #[.int .u64 (IntKind.u64.wrap n), .int .u64 (IntKind.u64.wrap (n.fdiv (2 ^ 63))), .int .u64 (IntKind.u64.wrap (n.fdiv (2 ^ 63))), .int .u64 (IntKind.u64.wrap (n.fdiv (2 ^ 63)))], []) := by kernel_rfl

theorem of_words {n : Int} (h : I64 n) : (.agg #[.int .u64 (IntKind.u64.wrap n), .int .u64 (IntKind.u64.wrap (n.fdiv (2 ^ 63))), .int .u64 (IntKind.u64.wrap (n.fdiv (2 ^ 63))), .int .u64 (IntKind.u64.wrap (n.fdiv (2 ^ 63)))] : Value) = W n := by
  unfold I64 at h
  have e : n.fdiv (2 ^ 63) = if n < 0 then -1 else 0 := by
    rw [Int.fdiv_eq_ediv_of_nonneg _ (by decide)]
    split <;> omega
  rw [e, wrap_u64, wrap_u64]
  split <;> refine W_of ?_ ?_ ?_ ?_ ?_ ?_ ?_ ?_ ?_ <;> simp only [BB, B2, B3, MM] at * <;> omega

theorem of_gives (args : List Value) (h : ofP args) : Gives P 72 args.toArray (ofV args) := by
  unfold ofP at h
  split at h
  · rename_i n
    exact gives_of_run mo (of_run n) ps_nil (of_words h)
  · exact h.elim

noncomputable def of : Ctr P := ⟨72, ofP, ofV, of_gives⟩

/-! ### Add, Sub -/
noncomputable def E2 : Env P := ⟨[add64, low, plus, not, of], [], 10, []⟩

def inRB (n : Int) : Bool := decide (-HH ≤ n) && decide (n < HH)

def addV : List Value → Value
  | [x, y] => .tuple #[W (tI x + tI y), .bool (!inRB (tI x + tI y))]
  | _ => undef
def subV : List Value → Value
  | [x, y] => .tuple #[W (tI x - tI y), .bool (!inRB (tI x - tI y))]
  | _ => undef

theorem add_run1 (a b : Int) : runF P E2 1 120 [W a, W b] [.b true] =
    some (.tuple #[W (tI (W a) + tI (W b) + 0), .bool (decide (tI (W (tI (W a) + tI (W b) + 0)) < 0) != decide (tI (W a) < 0))],
      [plusP [W a, W b, .int .u64 0], IsW (W a), IsW (W b), (decide (tI (W a) < 0) == decide (tI (W b) < 0)) = true, IsW (W (tI (W a) + tI (W b) + 0)), IsW (W a)]) := by kernel_rfl

theorem add_run2 (a b : Int) : runF P E2 1 120 [W a, W b] [.b false] =
    some (.tuple #[W (tI (W a) + tI (W b) + 0), .bool false], [plusP [W a, W b, .int .u64 0], IsW (W a), IsW (W b), (decide (tI (W a) < 0) == decide (tI (W b) < 0)) = false]) := by kernel_rfl

theorem bm_add (a b : Int) : bm (bm a + bm b) = bm (a + b) := bm_congr (by
  have := bm_mod a
  have := bm_mod b
  simp only [MM] at *
  omega)

theorem over_same {x y : Int} (hx : InR x) (hy : InR y) (h : (decide (x < 0) == decide (y < 0)) = true) : (decide (bm (x + y) < 0) != decide (x < 0)) = !inRB (x + y) := by
  have hm := bm_mod (x + y)
  have hr := bm_range (x + y)
  unfold InR at *
  unfold inRB
  rw [beq_iff_eq, decide_eq_decide] at h
  rw [Bool.eq_iff_iff]
  simp only [bne_iff_ne, ne_eq, decide_eq_decide, Bool.not_eq_true', Bool.and_eq_false_iff, decide_eq_false_iff_not]
  simp only [MM, HH] at *
  omega

theorem over_unlike {x y : Int} (hx : InR x) (hy : InR y) (h : (decide (x < 0) == decide (y < 0)) = false) : false = !inRB (x + y) := by
  unfold InR at *
  unfold inRB
  rw [beq_eq_false_iff_ne, ne_eq, decide_eq_decide] at h
  have : (decide (-HH ≤ x + y) && decide (x + y < HH)) = true := by
    simp only [Bool.and_eq_true, decide_eq_true_eq]
    simp only [HH] at *
    omega
  rw [this]
  rfl

theorem add_gives (args : List Value) (h : P2 args) : Gives P 120 args.toArray (addV args) := by
  unfold P2 at h
  split at h
  · obtain ⟨⟨a, rfl⟩, ⟨b, rfl⟩⟩ := h
    have hp : plusP [W a, W b, .int .u64 0] := ⟨IsW_W _, IsW_W _, by omega, by omega⟩
    cases hc : (decide (tI (W a) < 0) == decide (tI (W b) < 0)) with
    | true =>
      refine gives_of_run mo (add_run1 a b) (ps_cons hp (ps_cons (IsW_W _) (ps_cons (IsW_W _) (ps_cons hc (ps_cons (IsW_W _) (ps_cons (IsW_W _) ps_nil)))))) ?_
      simp only [tI_W] at hc ⊢
      simp only [addV, tI_W, Int.add_zero]
      rw [over_same (bm_range a) (bm_range b) hc]
    | false =>
      refine gives_of_run mo (add_run2 a b) (ps_cons hp (ps_cons (IsW_W _) (ps_cons (IsW_W _) (ps_cons hc ps_nil)))) ?_
      simp only [tI_W] at hc ⊢
      simp only [addV, tI_W, Int.add_zero]
      rw [over_unlike (bm_range a) (bm_range b) hc]
  · exact h.elim

noncomputable def add : Ctr P := ⟨120, P2, addV, add_gives⟩

theorem sub_run1 (a b : Int) : runF P E2 1 129 [W a, W b] [.b true] =
    some (.tuple #[W (tI (W a) + tI (W (-1 - tI (W b))) + 1), .bool (decide (tI (W (tI (W a) + tI (W (-1 - tI (W b))) + 1)) < 0) != decide (tI (W a) < 0))],
      [IsW (W b), plusP [W a, W (-1 - tI (W b)), .int .u64 1], IsW (W a), IsW (W b), (decide (tI (W a) < 0) != decide (tI (W b) < 0)) = true, IsW (W (tI (W a) + tI (W (-1 - tI (W b))) + 1)), IsW (W a)]) := by kernel_rfl

theorem sub_run2 (a b : Int) : runF P E2 1 129 [W a, W b] [.b false] =
    some (.tuple #[W (tI (W a) + tI (W (-1 - tI (W b))) + 1), .bool false], [IsW (W b), plusP [W a, W (-1 - tI (W b)), .int .u64 1], IsW (W a), IsW (W b), (decide (tI (W a) < 0) != decide (tI (W b) < 0)) = false]) := by kernel_rfl

theorem sub_W (a b : Int) : W (bm a + bm (-1 - bm b) + 1) = W (bm a - bm b) := W_congr (by
  have := bm_mod (-1 - bm b)
  simp only [MM] at *
  omega)

theorem sub_over {x y : Int} (hx : InR x) (hy : InR y) (h : (decide (x < 0) != decide (y < 0)) = true) : (decide (bm (x - y) < 0) != decide (x < 0)) = !inRB (x - y) := by
  have hm := bm_mod (x - y)
  have hr := bm_range (x - y)
  unfold InR at *
  unfold inRB
  rw [bne_iff_ne, ne_eq, decide_eq_decide] at h
  rw [Bool.eq_iff_iff]
  simp only [bne_iff_ne, ne_eq, decide_eq_decide, Bool.not_eq_true', Bool.and_eq_false_iff, decide_eq_false_iff_not]
  simp only [MM, HH] at *
  omega

theorem sub_under {x y : Int} (hx : InR x) (hy : InR y) (h : (decide (x < 0) != decide (y < 0)) = false) : false = !inRB (x - y) := by
  unfold InR at *
  unfold inRB
  rw [bne_eq_false_iff_eq, decide_eq_decide] at h
  have : (decide (-HH ≤ x - y) && decide (x - y < HH)) = true := by
    simp only [Bool.and_eq_true, decide_eq_true_eq]
    simp only [HH] at *
    omega
  rw [this]
  rfl

theorem sub_gives (args : List Value) (h : P2 args) : Gives P 129 args.toArray (subV args) := by
  unfold P2 at h
  split at h
  · obtain ⟨⟨a, rfl⟩, ⟨b, rfl⟩⟩ := h
    have hp : plusP [W a, W (-1 - tI (W b)), .int .u64 1] := ⟨IsW_W _, IsW_W _, by omega, by omega⟩
    have hbm : bm (bm a + bm (-1 - bm b) + 1) = bm (bm a - bm b) := bm_congr (by
      have := bm_mod (-1 - bm b)
      simp only [MM] at *
      omega)
    cases hc : (decide (tI (W a) < 0) != decide (tI (W b) < 0)) with
    | true =>
      refine gives_of_run mo (sub_run1 a b) (ps_cons (IsW_W _) (ps_cons hp (ps_cons (IsW_W _) (ps_cons (IsW_W _) (ps_cons hc (ps_cons (IsW_W _) (ps_cons (IsW_W _) ps_nil))))))) ?_
      simp only [tI_W] at hc ⊢
      simp only [subV, tI_W]
      rw [hbm, sub_W, sub_over (bm_range a) (bm_range b) hc]
    | false =>
      refine gives_of_run mo (sub_run2 a b) (ps_cons (IsW_W _) (ps_cons hp (ps_cons (IsW_W _) (ps_cons (IsW_W _) (ps_cons hc ps_nil))))) ?_
      simp only [tI_W] at hc ⊢
      simp only [subV, tI_W]
      rw [sub_W, sub_under (bm_range a) (bm_range b) hc]
  · exact h.elim

noncomputable def sub : Ctr P := ⟨129, P2, subV, sub_gives⟩

/-! ### Neg -/
noncomputable def E3 : Env P := ⟨[add64, low, plus, not, of, add, sub], [], 10, []⟩

def negV : List Value → Value
  | [x] => .tuple #[W (-tI x), .bool (!inRB (-tI x))]
  | _ => undef

theorem neg_run (a : Int) : runF P E3 1 122 [W a] [] = some (.tuple #[W (tI (W 0) - tI (W a)), .bool (!inRB (tI (W 0) - tI (W a)))], [P2 [W 0, W a]]) := by kernel_rfl

theorem tI_W0 : tI (W 0) = 0 := by rw [tI_W]; rfl

theorem neg_gives (args : List Value) (h : P1 args) : Gives P 122 args.toArray (negV args) := by
  unfold P1 at h
  split at h
  · obtain ⟨n, rfl⟩ := h
    refine gives_of_run mo (neg_run n) (ps_cons ⟨IsW_W _, IsW_W _⟩ ps_nil) ?_
    rw [tI_W0]
    simp only [negV, Int.zero_sub]
  · exact h.elim

noncomputable def neg : Ctr P := ⟨122, P1, negV, neg_gives⟩
end Go.Wd
