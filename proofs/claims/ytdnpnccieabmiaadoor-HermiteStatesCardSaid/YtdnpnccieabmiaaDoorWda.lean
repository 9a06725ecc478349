/-
  Whole numbers of 256 bits as Go's arrays of four words: plain arithmetic.
-/
import Derived.WalkKit
import Derived.Test.YtdnpnccieabmiaaDoorProg
import Derived.Test.YtdnpnccieabmiaaDoorSxc
import Derived.KernelRfl
set_option maxRecDepth 100000
namespace Go.Nm
open Go
abbrev BB : Int := 18446744073709551616
abbrev B2 : Int := 340282366920938463463374607431768211456
abbrev B3 : Int := 6277101735386680763835789423207666416102355444464034512896
abbrev MM : Int := 115792089237316195423570985008687907853269984665640564039457584007913129639936
abbrev HH : Int := 57896044618658097711785492504343953926634992332820282019728792003956564819968
def w0 (n : Int) : Int := n % BB
def w1 (n : Int) : Int := n / BB % BB
def w2 (n : Int) : Int := n / B2 % BB
def w3 (n : Int) : Int := n / B3 % BB
def W (n : Int) : Value := .agg #[.int .u64 (w0 n), .int .u64 (w1 n), .int .u64 (w2 n), .int .u64 (w3 n)]
def bm (n : Int) : Int := (n + HH) % MM - HH
def InR (n : Int) : Prop := -HH ≤ n ∧ n < HH
def tI (v : Value) : Int :=
  match v with
  | .agg cs => match cs.toList with
    | [.int _ a, .int _ b, .int _ c, .int _ d] => bm (a + BB * b + B2 * c + B3 * d)
    | _ => 0
  | _ => 0
theorem bm_in {n : Int} (h : InR n) : bm n = n := by
  unfold InR at h
  unfold bm
  simp only [HH, MM] at *
  omega
theorem bm_range (n : Int) : InR (bm n) := by
  unfold InR bm
  simp only [HH, MM] at *
  omega
theorem bm_mod (n : Int) : bm n % MM = n % MM := by
  unfold bm
  simp only [HH, MM] at *
  omega
theorem bm_congr {m n : Int} (h : m % MM = n % MM) : bm m = bm n := by
  unfold bm
  simp only [HH, MM] at *
  omega
theorem words_sum (n : Int) : w0 n + BB * w1 n + B2 * w2 n + B3 * w3 n = n % MM := by
  unfold w0 w1 w2 w3
  simp only [BB, B2, B3, MM]
  omega
theorem w0_range (n : Int) : 0 ≤ w0 n ∧ w0 n < BB := by unfold w0; simp only [BB]; omega
theorem w1_range (n : Int) : 0 ≤ w1 n ∧ w1 n < BB := by unfold w1; simp only [BB]; omega
theorem w2_range (n : Int) : 0 ≤ w2 n ∧ w2 n < BB := by unfold w2; simp only [BB, B2]; omega
theorem w3_range (n : Int) : 0 ≤ w3 n ∧ w3 n < BB := by unfold w3; simp only [BB, B3]; omega
theorem tI_W (n : Int) : tI (W n) = bm n := by
  have : tI (W n) = bm (w0 n + BB * w1 n + B2 * w2 n + B3 * w3 n) := rfl
  rw [this, words_sum]
  exact bm_congr (by simp only [MM]; omega)
theorem W_words {n a b c d : Int} (ha : w0 n = a) (hb : w1 n = b) (hc : w2 n = c) (hd : w3 n = d) : W n = .agg #[.int .u64 a, .int .u64 b, .int .u64 c, .int .u64 d] := by
  unfold W; rw [ha, hb, hc, hd]
theorem W_of {a b c d n : Int} (h1 : 0 ≤ a) (h2 : a < BB) (h3 : 0 ≤ b) (h4 : b < BB) (h5 : 0 ≤ c) (h6 : c < BB) (h7 : 0 ≤ d) (h8 : d < BB)
    (h : (a + BB * b + B2 * c + B3 * d) % MM = n % MM) : .agg #[.int .u64 a, .int .u64 b, .int .u64 c, .int .u64 d] = W n := by
  have e := words_sum n
  have r0 := w0_range n
  have r1 := w1_range n
  have r2 := w2_range n
  have r3 := w3_range n
  refine (W_words ?_ ?_ ?_ ?_).symm <;> simp only [BB, B2, B3, MM] at * <;> omega
theorem W_congr {m n : Int} (h : m % MM = n % MM) : W m = W n := by
  have r0 := w0_range m
  have r1 := w1_range m
  have r2 := w2_range m
  have r3 := w3_range m
  exact W_of r0.1 r0.2 r1.1 r1.2 r2.1 r2.2 r3.1 r3.2 (by rw [words_sum]; simp only [MM] at *; omega)
def weq (m n : Int) : Bool := (w0 m == w0 n) && ((w1 m == w1 n) && ((w2 m == w2 n) && (w3 m == w3 n)))
theorem weq_iff {m n : Int} : weq m n = true ↔ m % MM = n % MM := by
  have e := words_sum m
  have f := words_sum n
  have r0 := w0_range m
  have r1 := w1_range m
  have r2 := w2_range m
  have r3 := w3_range m
  have s0 := w0_range n
  have s1 := w1_range n
  have s2 := w2_range n
  have s3 := w3_range n
  simp only [weq, Bool.and_eq_true, beq_iff_eq]
  constructor
  · rintro ⟨h0, h1, h2, h3⟩
    rw [← e, ← f, h0, h1, h2, h3]
  · intro h
    refine ⟨?_, ?_, ?_, ?_⟩ <;> simp only [BB, B2, B3, MM] at * <;> omega
theorem weq_eq (m n : Int) : weq m n = decide (m % MM = n % MM) := by
  rw [Bool.eq_iff_iff, weq_iff, decide_eq_true_iff]
theorem wrap_i64_word {n : Int} (h : 0 ≤ n) (h2 : n < BB) : IntKind.i64.wrap n = if n < 9223372036854775808 then n else n - BB := by
  simp only [BB] at *
  have e : IntKind.i64.wrap n = if n % 18446744073709551616 ≥ 9223372036854775808 then n % 18446744073709551616 - 18446744073709551616 else n % 18446744073709551616 := by
    simp [IntKind.wrap, IntKind.signed, IntKind.bits]
  rw [e]
  split <;> split <;> omega
theorem wrap_u64 (n : Int) : IntKind.u64.wrap n = n % BB := by
  simp [IntKind.wrap, IntKind.signed, IntKind.bits]
theorem wrap_i64_in {n : Int} (h : -9223372036854775808 ≤ n) (h2 : n < 9223372036854775808) : IntKind.i64.wrap n = n := by
  have e : IntKind.i64.wrap n = if n % 18446744073709551616 ≥ 9223372036854775808 then n % 18446744073709551616 - 18446744073709551616 else n % 18446744073709551616 := by
    simp [IntKind.wrap, IntKind.signed, IntKind.bits]
  rw [e]
  split <;> omega
theorem low_w3 (n : Int) : decide (IntKind.i64.wrap (w3 n) < 0) = decide (bm n < 0) := by
  have r3 := w3_range n
  rw [wrap_i64_word r3.1 r3.2]
  have e := words_sum n
  have r0 := w0_range n
  have r1 := w1_range n
  have r2 := w2_range n
  have hb := bm_mod n
  have hr := bm_range n
  unfold InR at hr
  rw [decide_eq_decide]
  simp only [BB, B2, B3, MM, HH] at *
  split <;> omega
end Go.Nm
/-
  Contracts of package wide's functions, first part: sums and differences, signs.
-/
namespace Go.Wd
open Go Go.RowKit Go.Sx Go.Nm Go.Proofs
noncomputable abbrev P : Program := Tryd.prog
theorem mo : P.follows .mixedOrders = true := by kernel_rfl
def add64V : List Value → Value
  | [.int _ x, .int _ y, .int _ c] => .tuple #[.int .u64 ((x + y + c) % BB), .int .u64 ((x + y + c) / BB)]
  | _ => undef
def add64P : List Value → Prop
  | [.int .u64 x, .int .u64 y, .int .u64 c] => 0 ≤ x ∧ 0 ≤ y ∧ 0 ≤ c ∧ c ≤ 1
  | _ => False
theorem add64_gives (args : List Value) (h : add64P args) : Gives P 42 args.toArray (add64V args) := by
  unfold add64P at h
  split at h
  · rename_i x y c
    refine gives_of_value fun w => ?_
    have hx := run_callFunc_extern (P := P) (f := 42) (e := add64Entry) Tryd.func42 (by kernel_rfl) (by kernel_rfl) (by kernel_rfl) (by kernel_rfl) #[.int .u64 x, .int .u64 y, .int .u64 c] w
    rw [run_add64 x y c h.1 h.2.1 h.2.2.1 h.2.2.2 w] at hx
    exact hx
  · exact h.elim
noncomputable def add64 : Ctr P := ⟨42, add64P, add64V, add64_gives⟩
def IsW (v : Value) : Prop := ∃ n, v = W n
theorem IsW_W (n : Int) : IsW (W n) := ⟨n, rfl⟩
def P1 : List Value → Prop
  | [x] => IsW x
  | _ => False
def P2 : List Value → Prop
  | [x, y] => IsW x ∧ IsW y
  | _ => False
def lowV : List Value → Value
  | [x] => .bool (decide (tI x < 0))
  | _ => undef
noncomputable def E0 : Env P := ⟨[add64], [], 10, []⟩
theorem low_run (n : Int) : runF P E0 1 39 [W n] [] = some (.bool (decide (IntKind.i64.wrap (w3 n) < 0)), []) := by kernel_rfl
theorem low_gives (args : List Value) (h : P1 args) : Gives P 39 args.toArray (lowV args) := by
  unfold P1 at h
  split at h
  · obtain ⟨n, rfl⟩ := h
    refine gives_of_run mo (low_run n) ps_nil ?_
    rw [low_w3]
    simp only [lowV, tI_W]
  · exact h.elim
noncomputable def low : Ctr P := ⟨39, P1, lowV, low_gives⟩
def k1 (a b c : Int) : Int := (w0 a + w0 b + c) / BB
def k2 (a b c : Int) : Int := (w1 a + w1 b + k1 a b c) / BB
def k3 (a b c : Int) : Int := (w2 a + w2 b + k2 a b c) / BB
theorem plus_run (a b c : Int) : runF P E0 4 68 [W a, W b, .int .u64 c] [] =
    some (.agg #[.int .u64 ((w0 a + w0 b + c) % BB), .int .u64 ((w1 a + w1 b + k1 a b c) % BB), .int .u64 ((w2 a + w2 b + k2 a b c) % BB), .int .u64 ((w3 a + w3 b + k3 a b c) % BB)], [add64P [.int .u64 (w0 a), .int .u64 (w0 b), .int .u64 c], add64P [.int .u64 (w1 a), .int .u64 (w1 b), .int .u64 (k1 a b c)], add64P [.int .u64 (w2 a), .int .u64 (w2 b), .int .u64 (k2 a b c)], add64P [.int .u64 (w3 a), .int .u64 (w3 b), .int .u64 (k3 a b c)]]) := by kernel_rfl
theorem plus_sum (a b c : Int) :
    (.agg #[.int .u64 ((w0 a + w0 b + c) % BB), .int .u64 ((w1 a + w1 b + k1 a b c) % BB), .int .u64 ((w2 a + w2 b + k2 a b c) % BB), .int .u64 ((w3 a + w3 b + k3 a b c) % BB)] : Value) = W (a + b + c) := by
  have ea := words_sum a
  have eb := words_sum b
  have a0 := w0_range a
  have a1 := w1_range a
  have a2 := w2_range a
  have a3 := w3_range a
  have b0 := w0_range b
  have b1 := w1_range b
  have b2 := w2_range b
  have b3 := w3_range b
  unfold k3 k2 k1
  generalize w0 a = x0 at *
  generalize w1 a = x1 at *
  generalize w2 a = x2 at *
  generalize w3 a = x3 at *
  generalize w0 b = y0 at *
  generalize w1 b = y1 at *
  generalize w2 b = y2 at *
  generalize w3 b = y3 at *
  refine W_of ?_ ?_ ?_ ?_ ?_ ?_ ?_ ?_ ?_ <;> simp only [BB, B2, B3, MM] at * <;> omega
def plusV : List Value → Value
  | [x, y, .int _ c] => W (tI x + tI y + c)
  | _ => undef
def plusP : List Value → Prop
  | [x, y, .int .u64 c] => IsW x ∧ IsW y ∧ 0 ≤ c ∧ c ≤ 1
  | _ => False
theorem W_bm_add (a b c : Int) : W (bm a + bm b + c) = W (a + b + c) := W_congr (by
  have := bm_mod a
  have := bm_mod b
  simp only [MM] at *
  omega)
theorem plus_gives (args : List Value) (h : plusP args) : Gives P 68 args.toArray (plusV args) := by
  unfold plusP at h
  split at h
  · obtain ⟨⟨a, rfl⟩, ⟨b, rfl⟩, h0, h1⟩ := h
    rename_i c
    have a0 := w0_range a
    have a1 := w1_range a
    have a2 := w2_range a
    have a3 := w3_range a
    have b0 := w0_range b
    have b1 := w1_range b
    have b2 := w2_range b
    have b3 := w3_range b
    have e1 : 0 ≤ k1 a b c ∧ k1 a b c ≤ 1 := by unfold k1; simp only [BB] at *; omega
    have e2 : 0 ≤ k2 a b c ∧ k2 a b c ≤ 1 := by unfold k2; simp only [BB] at *; omega
    have e3 : 0 ≤ k3 a b c ∧ k3 a b c ≤ 1 := by unfold k3; simp only [BB] at *; omega
    refine gives_of_run mo (plus_run a b c) (ps_cons ⟨a0.1, b0.1, h0, h1⟩ (ps_cons ⟨a1.1, b1.1, e1⟩ (ps_cons ⟨a2.1, b2.1, e2⟩ (ps_cons ⟨a3.1, b3.1, e3⟩ ps_nil)))) ?_
    rw [plus_sum a b c]
    simp only [plusV, tI_W, W_bm_add]
  · exact h.elim
noncomputable def plus : Ctr P := ⟨68, plusP, plusV, plus_gives⟩
end Go.Wd
/-
  Contracts of package wide's functions, second part.
-/
namespace Go.Wd
open Go Go.RowKit Go.Sx Go.Nm Go.Proofs
noncomputable def E1 : Env P := ⟨[add64, low, plus], [], 10, []⟩
theorem xor_word {n : Int} (h : 0 ≤ n) (h2 : n < BB) : IntKind.u64.wrap ↑(BitVec.ofInt 64 IntKind.u64.max ^^^ BitVec.ofInt 64 n).toNat = BB - 1 - n := by
  have e1 : BitVec.ofInt 64 IntKind.u64.max = BitVec.allOnes 64 := by decide
  rw [e1, BitVec.allOnes_xor, BitVec.toNat_not, BitVec.toNat_ofInt, wrap_u64]
  simp only [BB] at *
  omega
theorem not_run (n : Int) : runF P E1 1 74 [W n] [] =
    some (.agg #[.int .u64 (IntKind.u64.wrap ↑(BitVec.ofInt 64 IntKind.u64.max ^^^ BitVec.ofInt 64 (w0 n)).toNat), .int .u64 (IntKind.u64.wrap ↑(BitVec.ofInt 64 IntKind.u64.max ^^^ BitVec.ofInt 64 (w1 n)).toNat), .int .u64 (IntKind.u64.wrap ↑(BitVec.ofInt 64 IntKind.u64.max ^^^ BitVec.ofInt 64 (w2 n)).toNat), .int .u64 (IntKind.u64.wrap ↑(BitVec.ofInt 64 IntKind.u64.max ^^^ BitVec.ofInt 64 (w3 n)).toNat)], []) := by kernel_rfl
def notV : List Value → Value
  | [x] => W (-1 - tI x)
  | _ => undef
theorem not_gives (args : List Value) (h : P1 args) : Gives P 74 args.toArray (notV args) := by
  unfold P1 at h
  split at h
  · obtain ⟨n, rfl⟩ := h
    refine gives_of_run mo (not_run n) ps_nil ?_
    have e := words_sum n
    have r0 := w0_range n
    have r1 := w1_range n
    have r2 := w2_range n
    have r3 := w3_range n
    have hb := bm_mod n
    rw [xor_word r0.1 r0.2, xor_word r1.1 r1.2, xor_word r2.1 r2.2, xor_word r3.1 r3.2]
    simp only [notV, tI_W]
    refine W_of ?_ ?_ ?_ ?_ ?_ ?_ ?_ ?_ ?_ <;> simp only [BB, B2, B3, MM] at * <;> omega
  · exact h.elim
noncomputable def not : Ctr P := ⟨74, P1, notV, not_gives⟩
def I64 (n : Int) : Prop := -9223372036854775808 ≤ n ∧ n < 9223372036854775808
def ofP : List Value → Prop
  | [.int .i64 n] => I64 n
  | _ => False
def ofV : List Value → Value
  | [.int _ n] => W n
  | _ => undef
theorem of_run (n : Int) : runF P E1 1 28 [.int .i64 n] [] =
    some (.agg #[.int .u64 (IntKind.u64.wrap n), .int .u64 (IntKind.u64.wrap (n.fdiv (2 ^ 63))), .int .u64 (IntKind.u64.wrap (n.fdiv (2 ^ 63))), .int .u64 (IntKind.u64.wrap (n.fdiv (2 ^ 63)))], []) := by kernel_rfl
theorem of_words {n : Int} (h : I64 n) : (.agg #[.int .u64 (IntKind.u64.wrap n), .int .u64 (IntKind.u64.wrap (n.fdiv (2 ^ 63))), .int .u64 (IntKind.u64.wrap (n.fdiv (2 ^ 63))), .int .u64 (IntKind.u64.wrap (n.fdiv (2 ^ 63)))] : Value) = W n := by
  unfold I64 at h
  have e : n.fdiv (2 ^ 63) = if n < 0 then -1 else 0 := by
    rw [Int.fdiv_eq_ediv_of_nonneg _ (by decide)]
    split <;> omega
  rw [e, wrap_u64, wrap_u64]
  split <;> refine W_of ?_ ?_ ?_ ?_ ?_ ?_ ?_ ?_ ?_ <;> simp only [BB, B2, B3, MM] at * <;> omega
theorem of_gives (args : List Value) (h : ofP args) : Gives P 28 args.toArray (ofV args) := by
  unfold ofP at h
  split at h
  · rename_i n
    exact gives_of_run mo (of_run n) ps_nil (of_words h)
  · exact h.elim
noncomputable def of : Ctr P := ⟨28, ofP, ofV, of_gives⟩
noncomputable def E2 : Env P := ⟨[add64, low, plus, not, of], [], 10, []⟩
def inRB (n : Int) : Bool := decide (-HH ≤ n) && decide (n < HH)
def addV : List Value → Value
  | [x, y] => .tuple #[W (tI x + tI y), .bool (!inRB (tI x + tI y))]
  | _ => undef
def subV : List Value → Value
  | [x, y] => .tuple #[W (tI x - tI y), .bool (!inRB (tI x - tI y))]
  | _ => undef
theorem add_run1 (a b : Int) : runF P E2 1 43 [W a, W b] [.b true] =
    some (.tuple #[W (tI (W a) + tI (W b) + 0), .bool (decide (tI (W (tI (W a) + tI (W b) + 0)) < 0) != decide (tI (W a) < 0))], [plusP [W a, W b, .int .u64 0], IsW (W a), IsW (W b), (decide (tI (W a) < 0) == decide (tI (W b) < 0)) = true, IsW (W (tI (W a) + tI (W b) + 0)), IsW (W a)]) := by kernel_rfl
theorem add_run2 (a b : Int) : runF P E2 1 43 [W a, W b] [.b false] =
    some (.tuple #[W (tI (W a) + tI (W b) + 0), .bool false], [plusP [W a, W b, .int .u64 0], IsW (W a), IsW (W b), (decide (tI (W a) < 0) == decide (tI (W b) < 0)) = false]) := by kernel_rfl
theorem over_same {x y : Int} (hx : InR x) (hy : InR y) (h : (decide (x < 0) == decide (y < 0)) = true) : (decide (bm (x + y) < 0) != decide (x < 0)) = !inRB (x + y) := by
  have hm := bm_mod (x + y)
  have hr := bm_range (x + y)
  unfold InR at *
  unfold inRB
  rw [beq_iff_eq, decide_eq_decide] at h
  rw [Bool.eq_iff_iff]
  simp only [bne_iff_ne, ne_eq, decide_eq_decide, Bool.not_eq_true', Bool.and_eq_false_iff, decide_eq_false_iff_not]
  simp only [MM, HH] at *
  omega
theorem over_unlike {x y : Int} (hx : InR x) (hy : InR y) (h : (decide (x < 0) == decide (y < 0)) = false) : false = !inRB (x + y) := by
  unfold InR at *
  unfold inRB
  rw [beq_eq_false_iff_ne, ne_eq, decide_eq_decide] at h
  have : (decide (-HH ≤ x + y) && decide (x + y < HH)) = true := by
    simp only [Bool.and_eq_true, decide_eq_true_eq]
    simp only [HH] at *
    omega
  rw [this]
  rfl
theorem add_gives (args : List Value) (h : P2 args) : Gives P 43 args.toArray (addV args) := by
  unfold P2 at h
  split at h
  · obtain ⟨⟨a, rfl⟩, ⟨b, rfl⟩⟩ := h
    have hp : plusP [W a, W b, .int .u64 0] := ⟨IsW_W _, IsW_W _, by omega, by omega⟩
    cases hc : (decide (tI (W a) < 0) == decide (tI (W b) < 0)) with
    | true =>
      refine gives_of_run mo (add_run1 a b) (ps_cons hp (ps_cons (IsW_W _) (ps_cons (IsW_W _) (ps_cons hc (ps_cons (IsW_W _) (ps_cons (IsW_W _) ps_nil)))))) ?_
      simp only [tI_W] at hc ⊢
      simp only [addV, tI_W, Int.add_zero]
      rw [over_same (bm_range a) (bm_range b) hc]
    | false =>
      refine gives_of_run mo (add_run2 a b) (ps_cons hp (ps_cons (IsW_W _) (ps_cons (IsW_W _) (ps_cons hc ps_nil)))) ?_
      simp only [tI_W] at hc ⊢
      simp only [addV, tI_W, Int.add_zero]
      rw [over_unlike (bm_range a) (bm_range b) hc]
  · exact h.elim
noncomputable def add : Ctr P := ⟨43, P2, addV, add_gives⟩
theorem sub_run1 (a b : Int) : runF P E2 1 49 [W a, W b] [.b true] =
    some (.tuple #[W (tI (W a) + tI (W (-1 - tI (W b))) + 1), .bool (decide (tI (W (tI (W a) + tI (W (-1 - tI (W b))) + 1)) < 0) != decide (tI (W a) < 0))], [IsW (W b), plusP [W a, W (-1 - tI (W b)), .int .u64 1], IsW (W a), IsW (W b), (decide (tI (W a) < 0) != decide (tI (W b) < 0)) = true, IsW (W (tI (W a) + tI (W (-1 - tI (W b))) + 1)), IsW (W a)]) := by kernel_rfl
theorem sub_run2 (a b : Int) : runF P E2 1 49 [W a, W b] [.b false] =
    some (.tuple #[W (tI (W a) + tI (W (-1 - tI (W b))) + 1), .bool false], [IsW (W b), plusP [W a, W (-1 - tI (W b)), .int .u64 1], IsW (W a), IsW (W b), (decide (tI (W a) < 0) != decide (tI (W b) < 0)) = false]) := by kernel_rfl
theorem sub_W (a b : Int) : W (bm a + bm (-1 - bm b) + 1) = W (bm a - bm b) := W_congr (by
  have := bm_mod (-1 - bm b)
  simp only [MM] at *
  omega)
theorem sub_over {x y : Int} (hx : InR x) (hy : InR y) (h : (decide (x < 0) != decide (y < 0)) = true) : (decide (bm (x - y) < 0) != decide (x < 0)) = !inRB (x - y) := by
  have hm := bm_mod (x - y)
  have hr := bm_range (x - y)
  unfold InR at *
  unfold inRB
  rw [bne_iff_ne, ne_eq, decide_eq_decide] at h
  rw [Bool.eq_iff_iff]
  simp only [bne_iff_ne, ne_eq, decide_eq_decide, Bool.not_eq_true', Bool.and_eq_false_iff, decide_eq_false_iff_not]
  simp only [MM, HH] at *
  omega
theorem sub_under {x y : Int} (hx : InR x) (hy : InR y) (h : (decide (x < 0) != decide (y < 0)) = false) : false = !inRB (x - y) := by
  unfold InR at *
  unfold inRB
  rw [bne_eq_false_iff_eq, decide_eq_decide] at h
  have : (decide (-HH ≤ x - y) && decide (x - y < HH)) = true := by
    simp only [Bool.and_eq_true, decide_eq_true_eq]
    simp only [HH] at *
    omega
  rw [this]
  rfl
theorem sub_gives (args : List Value) (h : P2 args) : Gives P 49 args.toArray (subV args) := by
  unfold P2 at h
  split at h
  · obtain ⟨⟨a, rfl⟩, ⟨b, rfl⟩⟩ := h
    have hp : plusP [W a, W (-1 - tI (W b)), .int .u64 1] := ⟨IsW_W _, IsW_W _, by omega, by omega⟩
    have hbm : bm (bm a + bm (-1 - bm b) + 1) = bm (bm a - bm b) := bm_congr (by
      have := bm_mod (-1 - bm b)
      simp only [MM] at *
      omega)
    cases hc : (decide (tI (W a) < 0) != decide (tI (W b) < 0)) with
    | true =>
      refine gives_of_run mo (sub_run1 a b) (ps_cons (IsW_W _) (ps_cons hp (ps_cons (IsW_W _) (ps_cons (IsW_W _) (ps_cons hc (ps_cons (IsW_W _) (ps_cons (IsW_W _) ps_nil))))))) ?_
      simp only [tI_W] at hc ⊢
      simp only [subV, tI_W]
      rw [hbm, sub_W, sub_over (bm_range a) (bm_range b) hc]
    | false =>
      refine gives_of_run mo (sub_run2 a b) (ps_cons (IsW_W _) (ps_cons hp (ps_cons (IsW_W _) (ps_cons (IsW_W _) (ps_cons hc ps_nil))))) ?_
      simp only [tI_W] at hc ⊢
      simp only [subV, tI_W]
      rw [sub_W, sub_under (bm_range a) (bm_range b) hc]
  · exact h.elim
noncomputable def sub : Ctr P := ⟨49, P2, subV, sub_gives⟩
noncomputable def E3 : Env P := ⟨[add64, low, plus, not, of, add, sub], [], 10, []⟩
def negV : List Value → Value
  | [x] => .tuple #[W (-tI x), .bool (!inRB (-tI x))]
  | _ => undef
theorem neg_run (a : Int) : runF P E3 1 40 [W a] [] = some (.tuple #[W (tI (W 0) - tI (W a)), .bool (!inRB (tI (W 0) - tI (W a)))], [P2 [W 0, W a]]) := by kernel_rfl
theorem tI_W0 : tI (W 0) = 0 := by rw [tI_W]; rfl
theorem neg_gives (args : List Value) (h : P1 args) : Gives P 40 args.toArray (negV args) := by
  unfold P1 at h
  split at h
  · obtain ⟨n, rfl⟩ := h
    refine gives_of_run mo (neg_run n) (ps_cons ⟨IsW_W _, IsW_W _⟩ ps_nil) ?_
    rw [tI_W0]
    simp only [negV, Int.zero_sub]
  · exact h.elim
noncomputable def neg : Ctr P := ⟨40, P1, negV, neg_gives⟩
end Go.Wd
/-
  Contracts of package wide's functions, third part: products (printed by gen_mul.py).
-/
namespace Go.Wd
open Go Go.RowKit Go.Sx Go.Nm Go.Proofs
def lo32 (x : Int) : Int := IntKind.u64.wrap ↑(BitVec.ofInt 64 x &&& BitVec.ofInt 64 4294967295).toNat
def hi32 (x : Int) : Int := x.fdiv (2 ^ 32)
def mulT (x y : Int) : Int := IntKind.u64.wrap (IntKind.u64.wrap (hi32 x * lo32 y) + hi32 (IntKind.u64.wrap (lo32 x * lo32 y)))
def mulHi (x y : Int) : Int := IntKind.u64.wrap (IntKind.u64.wrap (IntKind.u64.wrap (hi32 x * hi32 y) + hi32 (mulT x y)) + hi32 (IntKind.u64.wrap (lo32 (mulT x y) + IntKind.u64.wrap (lo32 x * hi32 y))))
def mul64P : List Value → Prop
  | [.int .u64 x, .int .u64 y] => (0 ≤ x ∧ x < BB) ∧ 0 ≤ y ∧ y < BB
  | _ => False
def mul64V : List Value → Value
  | [.int _ x, .int _ y] => .tuple #[.int .u64 (x * y / BB), .int .u64 (x * y % BB)]
  | _ => undef
theorem mul64_run (x y : Int) : runF P E0 1 41 [.int .u64 x, .int .u64 y] [] = some (.tuple #[.int .u64 (mulHi x y), .int .u64 (IntKind.u64.wrap (x * y))], []) := by kernel_rfl
theorem lo32_eq (x : Int) : lo32 x = x % 4294967296 := by
  unfold lo32
  rw [wrap_u64, BitVec.toNat_and, BitVec.toNat_ofInt, BitVec.toNat_ofInt]
  have e : ((4294967295 : Int) % ((2 ^ 64 : Nat) : Int)).toNat = 2 ^ 32 - 1 := by decide
  rw [e, Nat.and_two_pow_sub_one_eq_mod]
  simp only [BB] at *
  omega
theorem hi32_eq (x : Int) : hi32 x = x / 4294967296 := by
  unfold hi32
  rw [Int.fdiv_eq_ediv_of_nonneg _ (by decide)]
  rfl
theorem prod_split (x1 x0 y1 y0 : Int) : (x1 * 4294967296 + x0) * (y1 * 4294967296 + y0) = (x1 * y1) * 18446744073709551616 + (x1 * y0 + x0 * y1) * 4294967296 + x0 * y0 := by
  grind
theorem mul_bd {x y m k : Int} (h0 : 0 ≤ x) (h1 : x ≤ m) (h2 : 0 ≤ y) (h3 : y ≤ k) : 0 ≤ x * y ∧ x * y ≤ m * k :=
  ⟨Int.mul_nonneg h0 h2, Int.mul_le_mul h1 h3 h2 (Int.le_trans h0 h1)⟩
theorem mulHi_eq {x y : Int} (hx : 0 ≤ x) (hx2 : x < BB) (hy : 0 ≤ y) (hy2 : y < BB) : mulHi x y = x * y / BB ∧ IntKind.u64.wrap (x * y) = x * y % BB := by
  refine ⟨?_, wrap_u64 _⟩
  obtain ⟨x1, hx1⟩ : ∃ t, t = x / 4294967296 := ⟨_, rfl⟩
  obtain ⟨x0, hx0⟩ : ∃ t, t = x % 4294967296 := ⟨_, rfl⟩
  obtain ⟨y1, hy1⟩ : ∃ t, t = y / 4294967296 := ⟨_, rfl⟩
  obtain ⟨y0, hy0⟩ : ∃ t, t = y % 4294967296 := ⟨_, rfl⟩
  have bx1 : 0 ≤ x1 ∧ x1 ≤ 4294967295 := by simp only [BB] at *; omega
  have bx0 : 0 ≤ x0 ∧ x0 ≤ 4294967295 := by omega
  have by1 : 0 ≤ y1 ∧ y1 ≤ 4294967295 := by simp only [BB] at *; omega
  have by0 : 0 ≤ y0 ∧ y0 ≤ 4294967295 := by omega
  have p11 := mul_bd bx1.1 bx1.2 by1.1 by1.2
  have p10 := mul_bd bx1.1 bx1.2 by0.1 by0.2
  have p01 := mul_bd bx0.1 bx0.2 by1.1 by1.2
  have p00 := mul_bd bx0.1 bx0.2 by0.1 by0.2
  have hsum : x * y = (x1 * y1) * 18446744073709551616 + (x1 * y0 + x0 * y1) * 4294967296 + x0 * y0 := by
    rw [← prod_split, show x1 * 4294967296 + x0 = x from by omega, show y1 * 4294967296 + y0 = y from by omega]
  have eT : mulT x y = x1 * y0 + x0 * y0 / 4294967296 := by
    unfold mulT
    rw [lo32_eq, lo32_eq, hi32_eq, hi32_eq, wrap_u64, wrap_u64, wrap_u64, ← hx1, ← hx0, ← hy0]
    generalize x1 * y0 = q at *
    generalize x0 * y0 = r at *
    simp only [BB] at *
    omega
  unfold mulHi
  rw [eT, lo32_eq x, hi32_eq y, hi32_eq x, hi32_eq, hi32_eq, lo32_eq, ← hx1, ← hx0, ← hy1, hsum]
  simp only [wrap_u64]
  generalize x1 * y1 = s at *
  generalize x1 * y0 = q at *
  generalize x0 * y1 = t at *
  generalize x0 * y0 = r at *
  simp only [BB] at *
  omega
theorem mul64_gives (args : List Value) (h : mul64P args) : Gives P 41 args.toArray (mul64V args) := by
  unfold mul64P at h
  split at h
  · rename_i x y
    obtain ⟨⟨h1, h2⟩, h3, h4⟩ := h
    refine gives_of_run mo (mul64_run x y) ps_nil ?_
    obtain ⟨e1, e2⟩ := mulHi_eq h1 h2 h3 h4
    rw [e1, e2]
    rfl
  · exact h.elim
noncomputable def mul64 : Ctr P := ⟨41, mul64P, mul64V, mul64_gives⟩
def sn (q d c : Int) : Int := ((q % BB + d + 0) % BB + c + 0) % BB
def sc (q d c : Int) : Int := IntKind.u64.wrap (IntKind.u64.wrap (q / BB + (q % BB + d + 0) / BB) + ((q % BB + d + 0) % BB + c + 0) / BB)
theorem step_eq {x y d c : Int} (hx : 0 ≤ x ∧ x < BB) (hy : 0 ≤ y ∧ y < BB) (hd : 0 ≤ d ∧ d < BB) (hc : 0 ≤ c ∧ c < BB) :
    (0 ≤ sn (x * y) d c ∧ sn (x * y) d c < BB) ∧ (0 ≤ sc (x * y) d c ∧ sc (x * y) d c < BB) ∧ sn (x * y) d c + BB * sc (x * y) d c = x * y + d + c := by
  have hb := mul_bd (m := BB - 1) (k := BB - 1) hx.1 (by omega) hy.1 (by omega)
  unfold sn sc
  rw [wrap_u64, wrap_u64]
  generalize x * y = q at *
  simp only [BB] at *
  omega
def n00 (a b : Int) : Int := sn (w0 a * w0 b) (0) (0)
def c01 (a b : Int) : Int := sc (w0 a * w0 b) (0) (0)
def n01 (a b : Int) : Int := sn (w0 a * w1 b) (0) (c01 a b)
def c02 (a b : Int) : Int := sc (w0 a * w1 b) (0) (c01 a b)
def n02 (a b : Int) : Int := sn (w0 a * w2 b) (0) (c02 a b)
def c03 (a b : Int) : Int := sc (w0 a * w2 b) (0) (c02 a b)
def n03 (a b : Int) : Int := sn (w0 a * w3 b) (0) (c03 a b)
def c04 (a b : Int) : Int := sc (w0 a * w3 b) (0) (c03 a b)
def n10 (a b : Int) : Int := sn (w1 a * w0 b) (n01 a b) (0)
def c11 (a b : Int) : Int := sc (w1 a * w0 b) (n01 a b) (0)
def n11 (a b : Int) : Int := sn (w1 a * w1 b) (n02 a b) (c11 a b)
def c12 (a b : Int) : Int := sc (w1 a * w1 b) (n02 a b) (c11 a b)
def n12 (a b : Int) : Int := sn (w1 a * w2 b) (n03 a b) (c12 a b)
def c13 (a b : Int) : Int := sc (w1 a * w2 b) (n03 a b) (c12 a b)
def n13 (a b : Int) : Int := sn (w1 a * w3 b) (c04 a b) (c13 a b)
def c14 (a b : Int) : Int := sc (w1 a * w3 b) (c04 a b) (c13 a b)
def n20 (a b : Int) : Int := sn (w2 a * w0 b) (n11 a b) (0)
def c21 (a b : Int) : Int := sc (w2 a * w0 b) (n11 a b) (0)
def n21 (a b : Int) : Int := sn (w2 a * w1 b) (n12 a b) (c21 a b)
def c22 (a b : Int) : Int := sc (w2 a * w1 b) (n12 a b) (c21 a b)
def n22 (a b : Int) : Int := sn (w2 a * w2 b) (n13 a b) (c22 a b)
def c23 (a b : Int) : Int := sc (w2 a * w2 b) (n13 a b) (c22 a b)
def n23 (a b : Int) : Int := sn (w2 a * w3 b) (c14 a b) (c23 a b)
def c24 (a b : Int) : Int := sc (w2 a * w3 b) (c14 a b) (c23 a b)
def n30 (a b : Int) : Int := sn (w3 a * w0 b) (n21 a b) (0)
def c31 (a b : Int) : Int := sc (w3 a * w0 b) (n21 a b) (0)
def n31 (a b : Int) : Int := sn (w3 a * w1 b) (n22 a b) (c31 a b)
def c32 (a b : Int) : Int := sc (w3 a * w1 b) (n22 a b) (c31 a b)
def n32 (a b : Int) : Int := sn (w3 a * w2 b) (n23 a b) (c32 a b)
def c33 (a b : Int) : Int := sc (w3 a * w2 b) (n23 a b) (c32 a b)
def n33 (a b : Int) : Int := sn (w3 a * w3 b) (c24 a b) (c33 a b)
def c34 (a b : Int) : Int := sc (w3 a * w3 b) (c24 a b) (c33 a b)
def mulC (a b : Int) : Value := .agg #[.int .u64 (n00 a b), .int .u64 (n10 a b), .int .u64 (n20 a b), .int .u64 (n30 a b)]
def orW (x y : Int) : Int := IntKind.u64.wrap ↑(BitVec.ofInt 64 x ||| BitVec.ofInt 64 y).toNat
def mulO (a b : Int) : Bool := orW (orW (orW (n31 a b) (n32 a b)) (n33 a b)) (c34 a b) != 0
def mulPs (a b : Int) : List Prop := [mul64P [.int .u64 (w0 a), .int .u64 (w0 b)], add64P [.int .u64 (w0 a * w0 b % BB), .int .u64 (0), .int .u64 0], add64P [.int .u64 ((w0 a * w0 b % BB + 0 + 0) % BB), .int .u64 (0), .int .u64 0], mul64P [.int .u64 (w0 a), .int .u64 (w1 b)], add64P [.int .u64 (w0 a * w1 b % BB), .int .u64 (0), .int .u64 0], add64P [.int .u64 ((w0 a * w1 b % BB + 0 + 0) % BB), .int .u64 (c01 a b), .int .u64 0], mul64P [.int .u64 (w0 a), .int .u64 (w2 b)], add64P [.int .u64 (w0 a * w2 b % BB), .int .u64 (0), .int .u64 0], add64P [.int .u64 ((w0 a * w2 b % BB + 0 + 0) % BB), .int .u64 (c02 a b), .int .u64 0], mul64P [.int .u64 (w0 a), .int .u64 (w3 b)], add64P [.int .u64 (w0 a * w3 b % BB), .int .u64 (0), .int .u64 0], add64P [.int .u64 ((w0 a * w3 b % BB + 0 + 0) % BB), .int .u64 (c03 a b), .int .u64 0], mul64P [.int .u64 (w1 a), .int .u64 (w0 b)], add64P [.int .u64 (w1 a * w0 b % BB), .int .u64 (n01 a b), .int .u64 0], add64P [.int .u64 ((w1 a * w0 b % BB + n01 a b + 0) % BB), .int .u64 (0), .int .u64 0], mul64P [.int .u64 (w1 a), .int .u64 (w1 b)], add64P [.int .u64 (w1 a * w1 b % BB), .int .u64 (n02 a b), .int .u64 0], add64P [.int .u64 ((w1 a * w1 b % BB + n02 a b + 0) % BB), .int .u64 (c11 a b), .int .u64 0], mul64P [.int .u64 (w1 a), .int .u64 (w2 b)], add64P [.int .u64 (w1 a * w2 b % BB), .int .u64 (n03 a b), .int .u64 0], add64P [.int .u64 ((w1 a * w2 b % BB + n03 a b + 0) % BB), .int .u64 (c12 a b), .int .u64 0], mul64P [.int .u64 (w1 a), .int .u64 (w3 b)], add64P [.int .u64 (w1 a * w3 b % BB), .int .u64 (c04 a b), .int .u64 0], add64P [.int .u64 ((w1 a * w3 b % BB + c04 a b + 0) % BB), .int .u64 (c13 a b), .int .u64 0], mul64P [.int .u64 (w2 a), .int .u64 (w0 b)], add64P [.int .u64 (w2 a * w0 b % BB), .int .u64 (n11 a b), .int .u64 0], add64P [.int .u64 ((w2 a * w0 b % BB + n11 a b + 0) % BB), .int .u64 (0), .int .u64 0], mul64P [.int .u64 (w2 a), .int .u64 (w1 b)], add64P [.int .u64 (w2 a * w1 b % BB), .int .u64 (n12 a b), .int .u64 0], add64P [.int .u64 ((w2 a * w1 b % BB + n12 a b + 0) % BB), .int .u64 (c21 a b), .int .u64 0], mul64P [.int .u64 (w2 a), .int .u64 (w2 b)], add64P [.int .u64 (w2 a * w2 b % BB), .int .u64 (n13 a b), .int .u64 0], add64P [.int .u64 ((w2 a * w2 b % BB + n13 a b + 0) % BB), .int .u64 (c22 a b), .int .u64 0], mul64P [.int .u64 (w2 a), .int .u64 (w3 b)], add64P [.int .u64 (w2 a * w3 b % BB), .int .u64 (c14 a b), .int .u64 0], add64P [.int .u64 ((w2 a * w3 b % BB + c14 a b + 0) % BB), .int .u64 (c23 a b), .int .u64 0], mul64P [.int .u64 (w3 a), .int .u64 (w0 b)], add64P [.int .u64 (w3 a * w0 b % BB), .int .u64 (n21 a b), .int .u64 0], add64P [.int .u64 ((w3 a * w0 b % BB + n21 a b + 0) % BB), .int .u64 (0), .int .u64 0], mul64P [.int .u64 (w3 a), .int .u64 (w1 b)], add64P [.int .u64 (w3 a * w1 b % BB), .int .u64 (n22 a b), .int .u64 0], add64P [.int .u64 ((w3 a * w1 b % BB + n22 a b + 0) % BB), .int .u64 (c31 a b), .int .u64 0], mul64P [.int .u64 (w3 a), .int .u64 (w2 b)], add64P [.int .u64 (w3 a * w2 b % BB), .int .u64 (n23 a b), .int .u64 0], add64P [.int .u64 ((w3 a * w2 b % BB + n23 a b + 0) % BB), .int .u64 (c32 a b), .int .u64 0], mul64P [.int .u64 (w3 a), .int .u64 (w3 b)], add64P [.int .u64 (w3 a * w3 b % BB), .int .u64 (c24 a b), .int .u64 0], add64P [.int .u64 ((w3 a * w3 b % BB + c24 a b + 0) % BB), .int .u64 (c33 a b), .int .u64 0]]
theorem add64P_lt {x y : Int} (hx : 0 ≤ x) (hy : 0 ≤ y) : add64P [.int .u64 x, .int .u64 y, .int .u64 0] := ⟨hx, hy, by omega, by omega⟩
theorem ps_three {x y d c : Int} {l : List Prop} (hx : 0 ≤ x ∧ x < BB) (hy : 0 ≤ y ∧ y < BB) (hd : 0 ≤ d ∧ d < BB) (hc : 0 ≤ c ∧ c < BB) (hl : ∀ p ∈ l, p) :
    ∀ p ∈ mul64P [.int .u64 x, .int .u64 y] :: add64P [.int .u64 (x * y % BB), .int .u64 d, .int .u64 0] :: add64P [.int .u64 ((x * y % BB + d + 0) % BB), .int .u64 c, .int .u64 0] :: l, p := by
  have h1 : 0 ≤ x * y % BB := Int.emod_nonneg _ (by simp only [BB]; omega)
  have h2 : 0 ≤ (x * y % BB + d + 0) % BB := Int.emod_nonneg _ (by simp only [BB]; omega)
  exact ps_cons ⟨hx, hy⟩ (ps_cons (add64P_lt h1 hd.1) (ps_cons (add64P_lt h2 hc.1) hl))
theorem mul_facts (a b : Int) : (∀ p ∈ mulPs a b, p) ∧ (n00 a b + BB * n10 a b + B2 * n20 a b + B3 * n30 a b) + MM * (n31 a b + BB * n32 a b + B2 * n33 a b + B3 * c34 a b) = (a % MM) * (b % MM) ∧
    (0 ≤ n00 a b ∧ n00 a b < BB) ∧ (0 ≤ n10 a b ∧ n10 a b < BB) ∧ (0 ≤ n20 a b ∧ n20 a b < BB) ∧ (0 ≤ n30 a b ∧ n30 a b < BB) ∧ (0 ≤ n31 a b ∧ n31 a b < BB) ∧ (0 ≤ n32 a b ∧ n32 a b < BB) ∧ (0 ≤ n33 a b ∧ n33 a b < BB) ∧ (0 ≤ c34 a b ∧ c34 a b < BB) := by
  have x0 := w0_range a
  have y0 := w0_range b
  have x1 := w1_range a
  have y1 := w1_range b
  have x2 := w2_range a
  have y2 := w2_range b
  have x3 := w3_range a
  have y3 := w3_range b
  have z : 0 ≤ (0 : Int) ∧ (0 : Int) < BB := by simp only [BB]; omega
  have s00 : (0 ≤ n00 a b ∧ n00 a b < BB) ∧ (0 ≤ c01 a b ∧ c01 a b < BB) ∧ n00 a b + BB * c01 a b = w0 a * w0 b + 0 + 0 := step_eq x0 y0 z z
  have s01 : (0 ≤ n01 a b ∧ n01 a b < BB) ∧ (0 ≤ c02 a b ∧ c02 a b < BB) ∧ n01 a b + BB * c02 a b = w0 a * w1 b + 0 + c01 a b := step_eq x0 y1 z s00.2.1
  have s02 : (0 ≤ n02 a b ∧ n02 a b < BB) ∧ (0 ≤ c03 a b ∧ c03 a b < BB) ∧ n02 a b + BB * c03 a b = w0 a * w2 b + 0 + c02 a b := step_eq x0 y2 z s01.2.1
  have s03 : (0 ≤ n03 a b ∧ n03 a b < BB) ∧ (0 ≤ c04 a b ∧ c04 a b < BB) ∧ n03 a b + BB * c04 a b = w0 a * w3 b + 0 + c03 a b := step_eq x0 y3 z s02.2.1
  have s10 : (0 ≤ n10 a b ∧ n10 a b < BB) ∧ (0 ≤ c11 a b ∧ c11 a b < BB) ∧ n10 a b + BB * c11 a b = w1 a * w0 b + n01 a b + 0 := step_eq x1 y0 s01.1 z
  have s11 : (0 ≤ n11 a b ∧ n11 a b < BB) ∧ (0 ≤ c12 a b ∧ c12 a b < BB) ∧ n11 a b + BB * c12 a b = w1 a * w1 b + n02 a b + c11 a b := step_eq x1 y1 s02.1 s10.2.1
  have s12 : (0 ≤ n12 a b ∧ n12 a b < BB) ∧ (0 ≤ c13 a b ∧ c13 a b < BB) ∧ n12 a b + BB * c13 a b = w1 a * w2 b + n03 a b + c12 a b := step_eq x1 y2 s03.1 s11.2.1
  have s13 : (0 ≤ n13 a b ∧ n13 a b < BB) ∧ (0 ≤ c14 a b ∧ c14 a b < BB) ∧ n13 a b + BB * c14 a b = w1 a * w3 b + c04 a b + c13 a b := step_eq x1 y3 s03.2.1 s12.2.1
  have s20 : (0 ≤ n20 a b ∧ n20 a b < BB) ∧ (0 ≤ c21 a b ∧ c21 a b < BB) ∧ n20 a b + BB * c21 a b = w2 a * w0 b + n11 a b + 0 := step_eq x2 y0 s11.1 z
  have s21 : (0 ≤ n21 a b ∧ n21 a b < BB) ∧ (0 ≤ c22 a b ∧ c22 a b < BB) ∧ n21 a b + BB * c22 a b = w2 a * w1 b + n12 a b + c21 a b := step_eq x2 y1 s12.1 s20.2.1
  have s22 : (0 ≤ n22 a b ∧ n22 a b < BB) ∧ (0 ≤ c23 a b ∧ c23 a b < BB) ∧ n22 a b + BB * c23 a b = w2 a * w2 b + n13 a b + c22 a b := step_eq x2 y2 s13.1 s21.2.1
  have s23 : (0 ≤ n23 a b ∧ n23 a b < BB) ∧ (0 ≤ c24 a b ∧ c24 a b < BB) ∧ n23 a b + BB * c24 a b = w2 a * w3 b + c14 a b + c23 a b := step_eq x2 y3 s13.2.1 s22.2.1
  have s30 : (0 ≤ n30 a b ∧ n30 a b < BB) ∧ (0 ≤ c31 a b ∧ c31 a b < BB) ∧ n30 a b + BB * c31 a b = w3 a * w0 b + n21 a b + 0 := step_eq x3 y0 s21.1 z
  have s31 : (0 ≤ n31 a b ∧ n31 a b < BB) ∧ (0 ≤ c32 a b ∧ c32 a b < BB) ∧ n31 a b + BB * c32 a b = w3 a * w1 b + n22 a b + c31 a b := step_eq x3 y1 s22.1 s30.2.1
  have s32 : (0 ≤ n32 a b ∧ n32 a b < BB) ∧ (0 ≤ c33 a b ∧ c33 a b < BB) ∧ n32 a b + BB * c33 a b = w3 a * w2 b + n23 a b + c32 a b := step_eq x3 y2 s23.1 s31.2.1
  have s33 : (0 ≤ n33 a b ∧ n33 a b < BB) ∧ (0 ≤ c34 a b ∧ c34 a b < BB) ∧ n33 a b + BB * c34 a b = w3 a * w3 b + c24 a b + c33 a b := step_eq x3 y3 s23.2.1 s32.2.1
  refine ⟨?_, ?_, s00.1, s10.1, s20.1, s30.1, s31.1, s32.1, s33.1, s33.2.1⟩
  · unfold mulPs
    exact (ps_three x0 y0 z z (ps_three x0 y1 z s00.2.1 (ps_three x0 y2 z s01.2.1 (ps_three x0 y3 z s02.2.1 (ps_three x1 y0 s01.1 z (ps_three x1 y1 s02.1 s10.2.1 (ps_three x1 y2 s03.1 s11.2.1 (ps_three x1 y3 s03.2.1 s12.2.1 (ps_three x2 y0 s11.1 z (ps_three x2 y1 s12.1 s20.2.1 (ps_three x2 y2 s13.1 s21.2.1 (ps_three x2 y3 s13.2.1 s22.2.1 (ps_three x3 y0 s21.1 z (ps_three x3 y1 s22.1 s30.2.1 (ps_three x3 y2 s23.1 s31.2.1 (ps_three x3 y3 s23.2.1 s32.2.1 ps_nil))))))))))))))))
  · have ea := words_sum a
    have eb := words_sum b
    rw [← ea, ← eb]
    have hexp : (w0 a + BB * w1 a + B2 * w2 a + B3 * w3 a) * (w0 b + BB * w1 b + B2 * w2 b + B3 * w3 b) =
        1 * (w0 a * w0 b) + BB * (w0 a * w1 b) + B2 * (w0 a * w2 b) + B3 * (w0 a * w3 b) + BB * (w1 a * w0 b) + B2 * (w1 a * w1 b) + B3 * (w1 a * w2 b) + MM * (w1 a * w3 b) + B2 * (w2 a * w0 b) + B3 * (w2 a * w1 b) + MM * (w2 a * w2 b) + (MM * BB) * (w2 a * w3 b) + B3 * (w3 a * w0 b) + MM * (w3 a * w1 b) + (MM * BB) * (w3 a * w2 b) + (MM * B2) * (w3 a * w3 b) := by
      simp only [BB, B2, B3, MM]
      grind
    rw [hexp]
    have g : ∀ {P Q R : Prop}, P ∧ Q ∧ R → R := fun h => h.2.2
    replace s00 := g s00
    replace s01 := g s01
    replace s02 := g s02
    replace s03 := g s03
    replace s10 := g s10
    replace s11 := g s11
    replace s12 := g s12
    replace s13 := g s13
    replace s20 := g s20
    replace s21 := g s21
    replace s22 := g s22
    replace s23 := g s23
    replace s30 := g s30
    replace s31 := g s31
    replace s32 := g s32
    replace s33 := g s33
    generalize w0 a * w0 b = q00 at *
    generalize w0 a * w1 b = q01 at *
    generalize w0 a * w2 b = q02 at *
    generalize w0 a * w3 b = q03 at *
    generalize w1 a * w0 b = q10 at *
    generalize w1 a * w1 b = q11 at *
    generalize w1 a * w2 b = q12 at *
    generalize w1 a * w3 b = q13 at *
    generalize w2 a * w0 b = q20 at *
    generalize w2 a * w1 b = q21 at *
    generalize w2 a * w2 b = q22 at *
    generalize w2 a * w3 b = q23 at *
    generalize w3 a * w0 b = q30 at *
    generalize w3 a * w1 b = q31 at *
    generalize w3 a * w2 b = q32 at *
    generalize w3 a * w3 b = q33 at *
    clear ea eb hexp g
    clear x0 y0
    clear x1 y1
    clear x2 y2
    clear x3 y3
    simp only [BB, B2, B3, MM] at *
    omega
end Go.Wd
/-
  Contracts of package wide's functions, fourth part: Mul (printed by gen_mul2.py).
-/
namespace Go.Wd
open Go Go.RowKit Go.Sx Go.Nm Go.Proofs
noncomputable def E4 : Env P := ⟨[add64, low, plus, not, of, add, sub, neg, mul64], [], 10, []⟩
def ng (n : Int) : Int := -tI (W n)
def mulZ (a b : Int) : Bool := !((n00 a b == 0) && ((n10 a b == 0) && ((n20 a b == 0) && (n30 a b == 0))))
def mulV : List Value → Value
  | [x, y] => .tuple #[W (tI x * tI y), .bool (!inRB (tI x * tI y))]
  | _ => undef
def lits : Nat → List Dec → List Dec
  | 0, l => l
  | k + 1, l => .lit :: lits k l
theorem mul_run_001 (a b : Int) : runF P E4 1 27 [W a, W b] (.b false :: .b false :: lits 66 (.b true :: [.b true])) =
    some (.tuple #[(mulC a b), .bool true], [IsW (W a), IsW (W b), IsW (W a), decide (tI (W a) < 0) = false, IsW (W b), decide (tI (W b) < 0) = false] ++ mulPs a b ++ [(!(decide (tI (W a) < 0) != decide (tI (W b) < 0))) = true, mulO a b = true]) := by kernel_rfl
theorem mul_run_000 (a b : Int) : runF P E4 1 27 [W a, W b] (.b false :: .b false :: lits 66 (.b true :: [.b false])) =
    some (.tuple #[(mulC a b), .bool (decide (tI (mulC a b) < 0))], [IsW (W a), IsW (W b), IsW (W a), decide (tI (W a) < 0) = false, IsW (W b), decide (tI (W b) < 0) = false] ++ mulPs a b ++ [(!(decide (tI (W a) < 0) != decide (tI (W b) < 0))) = true, mulO a b = false, IsW (mulC a b)]) := by kernel_rfl
theorem mul_run_011 (a b : Int) : runF P E4 1 27 [W a, W b] (.b false :: .b true :: lits 66 (.b false :: [.b true, .b false])) =
    some (.tuple #[(W (-tI (mulC a (ng b)))), .bool true], [IsW (W a), IsW (W b), IsW (W a), decide (tI (W a) < 0) = false, IsW (W b), decide (tI (W b) < 0) = true, IsW (W b)] ++ mulPs a (ng b) ++ [(!(decide (tI (W a) < 0) != decide (tI (W b) < 0))) = false, IsW (mulC a (ng b)), mulO a (ng b) = true]) := by kernel_rfl
theorem mul_run_0101 (a b : Int) : runF P E4 1 27 [W a, W b] (.b false :: .b true :: lits 66 (.b false :: [.b false, .b true])) =
    some (.tuple #[(W (-tI (mulC a (ng b)))), .bool (!(decide (tI (W (-tI (mulC a (ng b)))) < 0)))], [IsW (W a), IsW (W b), IsW (W a), decide (tI (W a) < 0) = false, IsW (W b), decide (tI (W b) < 0) = true, IsW (W b)] ++ mulPs a (ng b) ++ [(!(decide (tI (W a) < 0) != decide (tI (W b) < 0))) = false, IsW (mulC a (ng b)), mulO a (ng b) = false, mulZ a (ng b) = true, IsW (W (-tI (mulC a (ng b))))]) := by kernel_rfl
theorem mul_run_0100 (a b : Int) : runF P E4 1 27 [W a, W b] (.b false :: .b true :: lits 66 (.b false :: [.b false, .b false])) =
    some (.tuple #[(W (-tI (mulC a (ng b)))), .bool false], [IsW (W a), IsW (W b), IsW (W a), decide (tI (W a) < 0) = false, IsW (W b), decide (tI (W b) < 0) = true, IsW (W b)] ++ mulPs a (ng b) ++ [(!(decide (tI (W a) < 0) != decide (tI (W b) < 0))) = false, IsW (mulC a (ng b)), mulO a (ng b) = false, mulZ a (ng b) = false]) := by kernel_rfl
theorem mul_run_101 (a b : Int) : runF P E4 1 27 [W a, W b] (.b true :: .b false :: lits 66 (.b false :: [.b true, .b false])) =
    some (.tuple #[(W (-tI (mulC (ng a) b))), .bool true], [IsW (W a), IsW (W b), IsW (W a), decide (tI (W a) < 0) = true, IsW (W a), IsW (W b), decide (tI (W b) < 0) = false] ++ mulPs (ng a) b ++ [(!(decide (tI (W a) < 0) != decide (tI (W b) < 0))) = false, IsW (mulC (ng a) b), mulO (ng a) b = true]) := by kernel_rfl
theorem mul_run_1001 (a b : Int) : runF P E4 1 27 [W a, W b] (.b true :: .b false :: lits 66 (.b false :: [.b false, .b true])) =
    some (.tuple #[(W (-tI (mulC (ng a) b))), .bool (!(decide (tI (W (-tI (mulC (ng a) b))) < 0)))], [IsW (W a), IsW (W b), IsW (W a), decide (tI (W a) < 0) = true, IsW (W a), IsW (W b), decide (tI (W b) < 0) = false] ++ mulPs (ng a) b ++ [(!(decide (tI (W a) < 0) != decide (tI (W b) < 0))) = false, IsW (mulC (ng a) b), mulO (ng a) b = false, mulZ (ng a) b = true, IsW (W (-tI (mulC (ng a) b)))]) := by kernel_rfl
theorem mul_run_1000 (a b : Int) : runF P E4 1 27 [W a, W b] (.b true :: .b false :: lits 66 (.b false :: [.b false, .b false])) =
    some (.tuple #[(W (-tI (mulC (ng a) b))), .bool false], [IsW (W a), IsW (W b), IsW (W a), decide (tI (W a) < 0) = true, IsW (W a), IsW (W b), decide (tI (W b) < 0) = false] ++ mulPs (ng a) b ++ [(!(decide (tI (W a) < 0) != decide (tI (W b) < 0))) = false, IsW (mulC (ng a) b), mulO (ng a) b = false, mulZ (ng a) b = false]) := by kernel_rfl
theorem mul_run_111 (a b : Int) : runF P E4 1 27 [W a, W b] (.b true :: .b true :: lits 66 (.b true :: [.b true])) =
    some (.tuple #[(mulC (ng a) (ng b)), .bool true], [IsW (W a), IsW (W b), IsW (W a), decide (tI (W a) < 0) = true, IsW (W a), IsW (W b), decide (tI (W b) < 0) = true, IsW (W b)] ++ mulPs (ng a) (ng b) ++ [(!(decide (tI (W a) < 0) != decide (tI (W b) < 0))) = true, mulO (ng a) (ng b) = true]) := by kernel_rfl
theorem mul_run_110 (a b : Int) : runF P E4 1 27 [W a, W b] (.b true :: .b true :: lits 66 (.b true :: [.b false])) =
    some (.tuple #[(mulC (ng a) (ng b)), .bool (decide (tI (mulC (ng a) (ng b)) < 0))], [IsW (W a), IsW (W b), IsW (W a), decide (tI (W a) < 0) = true, IsW (W a), IsW (W b), decide (tI (W b) < 0) = true, IsW (W b)] ++ mulPs (ng a) (ng b) ++ [(!(decide (tI (W a) < 0) != decide (tI (W b) < 0))) = true, mulO (ng a) (ng b) = false, IsW (mulC (ng a) (ng b))]) := by kernel_rfl
theorem ps_append {l l' : List Prop} (h : ∀ p ∈ l, p) (h' : ∀ p ∈ l', p) : ∀ p ∈ l ++ l', p := by
  intro p hp
  rcases List.mem_append.1 hp with hp | hp
  · exact h p hp
  · exact h' p hp
theorem orW_zero {x y : Int} (hx : 0 ≤ x ∧ x < BB) (hy : 0 ≤ y ∧ y < BB) : (0 ≤ orW x y ∧ orW x y < BB) ∧ (orW x y = 0 ↔ x = 0 ∧ y = 0) := by
  unfold orW
  rw [wrap_u64, BitVec.toNat_or, BitVec.toNat_ofInt, BitVec.toNat_ofInt]
  simp only [BB] at *
  have ex : (x % ((2 ^ 64 : Nat) : Int)).toNat = x.toNat := by omega
  have ey : (y % ((2 ^ 64 : Nat) : Int)).toNat = y.toNat := by omega
  rw [ex, ey]
  have hlt : x.toNat ||| y.toNat < 2 ^ 64 := Nat.or_lt_two_pow (by omega) (by omega)
  refine ⟨by omega, ?_⟩
  constructor
  · intro h
    have h0 : x.toNat ||| y.toNat = 0 := by omega
    have := Nat.or_eq_zero_iff.1 h0
    omega
  · rintro ⟨rfl, rfl⟩
    rfl
structure MulOk (a b q : Int) : Prop where
  ps : ∀ p ∈ mulPs a b, p
  C : mulC a b = W q
  O : mulO a b = decide (MM ≤ q)
  Z : mulZ a b = decide (q % MM ≠ 0)
theorem mulOk (a b : Int) : MulOk a b ((a % MM) * (b % MM)) := by
  obtain ⟨h, hs, r0, r1, r2, r3, r4, r5, r6, r7⟩ := mul_facts a b
  have o1 := orW_zero r4 r5
  have o2 := orW_zero o1.1 r6
  have o3 := orW_zero o2.1 r7
  generalize (a % MM) * (b % MM) = q at *
  refine ⟨h, ?_, ?_, ?_⟩
  · exact W_of r0.1 r0.2 r1.1 r1.2 r2.1 r2.2 r3.1 r3.2 (by simp only [BB, B2, B3, MM] at *; omega)
  · unfold mulO
    rw [Bool.eq_iff_iff, bne_iff_ne, ne_eq, o3.2, o2.2, o1.2, decide_eq_true_iff]
    simp only [BB, B2, B3, MM] at *
    omega
  · unfold mulZ
    rw [Bool.eq_iff_iff, decide_eq_true_iff]
    simp only [Bool.not_eq_true', Bool.and_eq_false_iff, beq_eq_false_iff_ne, ne_eq]
    simp only [BB, B2, B3, MM] at *
    omega
theorem ng_mod {n : Int} (h : bm n < 0) : ng n % MM = -bm n := by
  have hr := bm_range n
  unfold ng InR at *
  rw [tI_W]
  simp only [MM, HH] at *
  omega
theorem pos_mod {n : Int} (h : ¬ bm n < 0) : n % MM = bm n := by
  have hr := bm_range n
  have hm := bm_mod n
  unfold InR at *
  simp only [MM, HH] at *
  omega
theorem end_same_over {q s : Int} (hq : q = s) (ho : MM ≤ q) : (Value.tuple #[W q, .bool true]) = .tuple #[W s, .bool (!inRB s)] := by
  subst hq
  have : inRB q = false := by unfold inRB; rw [Bool.and_eq_false_iff]; right; rw [decide_eq_false_iff_not]; simp only [MM, HH] at *; omega
  rw [this]; rfl
theorem end_same {q s : Int} (hq : q = s) (h0 : 0 ≤ q) (ho : ¬ MM ≤ q) : (Value.tuple #[W q, .bool (decide (tI (W q) < 0))]) = .tuple #[W s, .bool (!inRB s)] := by
  subst hq
  have : decide (tI (W q) < 0) = !inRB q := by
    rw [tI_W]
    have hm := bm_mod q
    have hr := bm_range q
    unfold inRB InR at *
    rw [Bool.eq_iff_iff]
    simp only [decide_eq_true_eq, Bool.not_eq_true', Bool.and_eq_false_iff, decide_eq_false_iff_not]
    simp only [MM, HH] at *
    omega
  rw [this]
theorem W_neg_bm (q : Int) : W (-tI (W q)) = W (-q) := by
  rw [tI_W]
  exact W_congr (by have := bm_mod q; simp only [MM] at *; omega)
theorem end_diff_over {q s : Int} (hq : -q = s) (ho : MM ≤ q) : (Value.tuple #[W (-tI (W q)), .bool true]) = .tuple #[W s, .bool (!inRB s)] := by
  rw [W_neg_bm]
  subst hq
  have : inRB (-q) = false := by unfold inRB; rw [Bool.and_eq_false_iff]; left; rw [decide_eq_false_iff_not]; simp only [MM, HH] at *; omega
  rw [this]; rfl
theorem end_diff_some {q s : Int} (hq : -q = s) (h0 : 0 ≤ q) (ho : ¬ MM ≤ q) (hz : q % MM ≠ 0) : (Value.tuple #[W (-tI (W q)), .bool (!(decide (tI (W (-tI (W q))) < 0)))]) = .tuple #[W s, .bool (!inRB s)] := by
  rw [W_neg_bm]
  subst hq
  have : decide (tI (W (-q)) < 0) = inRB (-q) := by
    rw [tI_W]
    have hm := bm_mod (-q)
    have hr := bm_range (-q)
    unfold inRB InR at *
    rw [Bool.eq_iff_iff]
    simp only [decide_eq_true_eq, Bool.and_eq_true]
    simp only [MM, HH] at *
    omega
  rw [this]
theorem end_diff_none {q s : Int} (hq : -q = s) (h0 : 0 ≤ q) (ho : ¬ MM ≤ q) (hz : ¬ q % MM ≠ 0) : (Value.tuple #[W (-tI (W q)), .bool false]) = .tuple #[W s, .bool (!inRB s)] := by
  rw [W_neg_bm]
  subst hq
  have : inRB (-q) = true := by
    unfold inRB
    simp only [decide_eq_true_eq, Bool.and_eq_true]
    simp only [MM, HH] at *
    omega
  rw [this]; rfl
theorem mul_gives (args : List Value) (h : P2 args) : Gives P 27 args.toArray (mulV args) := by
  unfold P2 at h
  split at h
  · obtain ⟨⟨a, rfl⟩, ⟨b, rfl⟩⟩ := h
    have ea : tI (W a) = bm a := tI_W a
    have eb : tI (W b) = bm b := tI_W b
    have spec : mulV [W a, W b] = .tuple #[W (bm a * bm b), .bool (!inRB (bm a * bm b))] := by simp only [mulV, ea, eb]
    rw [spec]
    cases ha : decide (tI (W a) < 0) with
    | false =>
      cases hb : decide (tI (W b) < 0) with
      | false =>
        have ha' : ¬ bm a < 0 := by rw [ea] at ha; simpa using ha
        have hb' : ¬ bm b < 0 := by rw [eb] at hb; simpa using hb
        have ok := mulOk a b
        rw [pos_mod ha', pos_mod hb'] at ok
        have h0 : 0 ≤ bm a * bm b := Int.mul_nonneg (by omega) (by omega)
        have hq : bm a * bm b = bm a * bm b := by rfl
        generalize bm a * bm b = q at *
        have hC : IsW (mulC a b) := ⟨_, ok.C⟩
        by_cases hov : MM ≤ q
        · have ho : mulO a b = true := by rw [ok.O]; exact decide_eq_true hov
          refine gives_of_run mo (mul_run_001 a b) (ps_append (ps_append (ps_cons (IsW_W _) (ps_cons (IsW_W _) (ps_cons (IsW_W _) (ps_cons ha (ps_cons (IsW_W _) (ps_cons hb ps_nil)))))) ok.ps) (ps_cons (by rw [ha, hb]; rfl) (ps_cons ho ps_nil))) ?_
          rw [ok.C]
          exact end_same_over hq hov
        · have ho : mulO a b = false := by rw [ok.O]; exact decide_eq_false hov
          refine gives_of_run mo (mul_run_000 a b) (ps_append (ps_append (ps_cons (IsW_W _) (ps_cons (IsW_W _) (ps_cons (IsW_W _) (ps_cons ha (ps_cons (IsW_W _) (ps_cons hb ps_nil)))))) ok.ps) (ps_cons (by rw [ha, hb]; rfl) (ps_cons ho (ps_cons hC ps_nil)))) ?_
          rw [ok.C]
          exact end_same hq h0 hov
      | true =>
        have ha' : ¬ bm a < 0 := by rw [ea] at ha; simpa using ha
        have hb' : bm b < 0 := by rw [eb] at hb; simpa using hb
        have ok := mulOk a (ng b)
        rw [pos_mod ha', ng_mod hb'] at ok
        have h0 : 0 ≤ bm a * (-bm b) := Int.mul_nonneg (by omega) (by omega)
        have hq : -(bm a * (-bm b)) = bm a * bm b := by rw [Int.mul_neg, Int.neg_neg]
        generalize bm a * (-bm b) = q at *
        have hC : IsW (mulC a (ng b)) := ⟨_, ok.C⟩
        by_cases hov : MM ≤ q
        · have ho : mulO a (ng b) = true := by rw [ok.O]; exact decide_eq_true hov
          refine gives_of_run mo (mul_run_011 a b) (ps_append (ps_append (ps_cons (IsW_W _) (ps_cons (IsW_W _) (ps_cons (IsW_W _) (ps_cons ha (ps_cons (IsW_W _) (ps_cons hb (ps_cons (IsW_W _) ps_nil))))))) ok.ps) (ps_cons (by rw [ha, hb]; rfl) (ps_cons hC (ps_cons ho ps_nil)))) ?_
          rw [ok.C]
          exact end_diff_over hq hov
        · have ho : mulO a (ng b) = false := by rw [ok.O]; exact decide_eq_false hov
          by_cases hz' : q % MM ≠ 0
          · have hz : mulZ a (ng b) = true := by rw [ok.Z]; exact decide_eq_true hz'
            refine gives_of_run mo (mul_run_0101 a b) (ps_append (ps_append (ps_cons (IsW_W _) (ps_cons (IsW_W _) (ps_cons (IsW_W _) (ps_cons ha (ps_cons (IsW_W _) (ps_cons hb (ps_cons (IsW_W _) ps_nil))))))) ok.ps) (ps_cons (by rw [ha, hb]; rfl) (ps_cons hC (ps_cons ho (ps_cons hz (ps_cons (IsW_W _) ps_nil)))))) ?_
            rw [ok.C]
            exact end_diff_some hq h0 hov hz'
          · have hz : mulZ a (ng b) = false := by rw [ok.Z]; exact decide_eq_false hz'
            refine gives_of_run mo (mul_run_0100 a b) (ps_append (ps_append (ps_cons (IsW_W _) (ps_cons (IsW_W _) (ps_cons (IsW_W _) (ps_cons ha (ps_cons (IsW_W _) (ps_cons hb (ps_cons (IsW_W _) ps_nil))))))) ok.ps) (ps_cons (by rw [ha, hb]; rfl) (ps_cons hC (ps_cons ho (ps_cons hz ps_nil))))) ?_
            rw [ok.C]
            exact end_diff_none hq h0 hov hz'
    | true =>
      cases hb : decide (tI (W b) < 0) with
      | false =>
        have ha' : bm a < 0 := by rw [ea] at ha; simpa using ha
        have hb' : ¬ bm b < 0 := by rw [eb] at hb; simpa using hb
        have ok := mulOk (ng a) b
        rw [ng_mod ha', pos_mod hb'] at ok
        have h0 : 0 ≤ (-bm a) * bm b := Int.mul_nonneg (by omega) (by omega)
        have hq : -((-bm a) * bm b) = bm a * bm b := by rw [Int.neg_mul, Int.neg_neg]
        generalize (-bm a) * bm b = q at *
        have hC : IsW (mulC (ng a) b) := ⟨_, ok.C⟩
        by_cases hov : MM ≤ q
        · have ho : mulO (ng a) b = true := by rw [ok.O]; exact decide_eq_true hov
          refine gives_of_run mo (mul_run_101 a b) (ps_append (ps_append (ps_cons (IsW_W _) (ps_cons (IsW_W _) (ps_cons (IsW_W _) (ps_cons ha (ps_cons (IsW_W _) (ps_cons (IsW_W _) (ps_cons hb ps_nil))))))) ok.ps) (ps_cons (by rw [ha, hb]; rfl) (ps_cons hC (ps_cons ho ps_nil)))) ?_
          rw [ok.C]
          exact end_diff_over hq hov
        · have ho : mulO (ng a) b = false := by rw [ok.O]; exact decide_eq_false hov
          by_cases hz' : q % MM ≠ 0
          · have hz : mulZ (ng a) b = true := by rw [ok.Z]; exact decide_eq_true hz'
            refine gives_of_run mo (mul_run_1001 a b) (ps_append (ps_append (ps_cons (IsW_W _) (ps_cons (IsW_W _) (ps_cons (IsW_W _) (ps_cons ha (ps_cons (IsW_W _) (ps_cons (IsW_W _) (ps_cons hb ps_nil))))))) ok.ps) (ps_cons (by rw [ha, hb]; rfl) (ps_cons hC (ps_cons ho (ps_cons hz (ps_cons (IsW_W _) ps_nil)))))) ?_
            rw [ok.C]
            exact end_diff_some hq h0 hov hz'
          · have hz : mulZ (ng a) b = false := by rw [ok.Z]; exact decide_eq_false hz'
            refine gives_of_run mo (mul_run_1000 a b) (ps_append (ps_append (ps_cons (IsW_W _) (ps_cons (IsW_W _) (ps_cons (IsW_W _) (ps_cons ha (ps_cons (IsW_W _) (ps_cons (IsW_W _) (ps_cons hb ps_nil))))))) ok.ps) (ps_cons (by rw [ha, hb]; rfl) (ps_cons hC (ps_cons ho (ps_cons hz ps_nil))))) ?_
            rw [ok.C]
            exact end_diff_none hq h0 hov hz'
      | true =>
        have ha' : bm a < 0 := by rw [ea] at ha; simpa using ha
        have hb' : bm b < 0 := by rw [eb] at hb; simpa using hb
        have ok := mulOk (ng a) (ng b)
        rw [ng_mod ha', ng_mod hb'] at ok
        have h0 : 0 ≤ (-bm a) * (-bm b) := Int.mul_nonneg (by omega) (by omega)
        have hq : (-bm a) * (-bm b) = bm a * bm b := by rw [Int.neg_mul_neg]
        generalize (-bm a) * (-bm b) = q at *
        have hC : IsW (mulC (ng a) (ng b)) := ⟨_, ok.C⟩
        by_cases hov : MM ≤ q
        · have ho : mulO (ng a) (ng b) = true := by rw [ok.O]; exact decide_eq_true hov
          refine gives_of_run mo (mul_run_111 a b) (ps_append (ps_append (ps_cons (IsW_W _) (ps_cons (IsW_W _) (ps_cons (IsW_W _) (ps_cons ha (ps_cons (IsW_W _) (ps_cons (IsW_W _) (ps_cons hb (ps_cons (IsW_W _) ps_nil)))))))) ok.ps) (ps_cons (by rw [ha, hb]; rfl) (ps_cons ho ps_nil))) ?_
          rw [ok.C]
          exact end_same_over hq hov
        · have ho : mulO (ng a) (ng b) = false := by rw [ok.O]; exact decide_eq_false hov
          refine gives_of_run mo (mul_run_110 a b) (ps_append (ps_append (ps_cons (IsW_W _) (ps_cons (IsW_W _) (ps_cons (IsW_W _) (ps_cons ha (ps_cons (IsW_W _) (ps_cons (IsW_W _) (ps_cons hb (ps_cons (IsW_W _) ps_nil)))))))) ok.ps) (ps_cons (by rw [ha, hb]; rfl) (ps_cons ho (ps_cons hC ps_nil)))) ?_
          rw [ok.C]
          exact end_same hq h0 hov
  · exact h.elim
noncomputable def mul : Ctr P := ⟨27, P2, mulV, mul_gives⟩
end Go.Wd
/-
  Contracts of package wide's functions, fifth part: order, ints.
-/
namespace Go.Wd
open Go Go.RowKit Go.Sx Go.Nm Go.Proofs
def cmp3 (x y : Int) : Int := if x < y then -1 else if y < x then 1 else 0
def cmpIV : List Value → Value
  | [.int _ x, .int _ y] => .int .i64 (cmp3 x y)
  | _ => undef
def cmpP (k : IntKind) : List Value → Prop
  | [.int j _, .int l _] => j = k ∧ l = k
  | _ => False
theorem cmp64_lt (x y : Int) : runF P E4 2 72 [.int .i64 x, .int .i64 y] [.b false, .b false, .b true] =
    some (.int .i64 (-1), [(x != x) = false, (y != y) = false, decide (x < y) = true]) := by kernel_rfl
theorem cmp64_gt (x y : Int) : runF P E4 2 72 [.int .i64 x, .int .i64 y] [.b false, .b false, .b false, .b true] =
    some (.int .i64 1, [(x != x) = false, (y != y) = false, decide (x < y) = false, decide (x > y) = true]) := by kernel_rfl
theorem cmp64_eq (x y : Int) : runF P E4 2 72 [.int .i64 x, .int .i64 y] [.b false, .b false, .b false, .b false] =
    some (.int .i64 0, [(x != x) = false, (y != y) = false, decide (x < y) = false, decide (x > y) = false]) := by kernel_rfl
theorem cmpU_lt (x y : Int) : runF P E4 2 73 [.int .u64 x, .int .u64 y] [.b false, .b false, .b true] =
    some (.int .i64 (-1), [(x != x) = false, (y != y) = false, decide (x < y) = true]) := by kernel_rfl
theorem cmpU_gt (x y : Int) : runF P E4 2 73 [.int .u64 x, .int .u64 y] [.b false, .b false, .b false, .b true] =
    some (.int .i64 1, [(x != x) = false, (y != y) = false, decide (x < y) = false, decide (x > y) = true]) := by kernel_rfl
theorem cmpU_eq (x y : Int) : runF P E4 2 73 [.int .u64 x, .int .u64 y] [.b false, .b false, .b false, .b false] =
    some (.int .i64 0, [(x != x) = false, (y != y) = false, decide (x < y) = false, decide (x > y) = false]) := by kernel_rfl
theorem ne_self (x : Int) : (x != x) = false := by simp
theorem cmp64_gives (args : List Value) (h : cmpP .i64 args) : Gives P 72 args.toArray (cmpIV args) := by
  unfold cmpP at h
  split at h
  · rename_i j x l y
    obtain ⟨rfl, rfl⟩ := h
    by_cases h1 : x < y
    · exact gives_of_run mo (cmp64_lt x y) (ps_cons (ne_self x) (ps_cons (ne_self y) (ps_cons (decide_eq_true h1) ps_nil))) (by simp [cmpIV, cmp3, h1])
    · by_cases h2 : y < x
      · exact gives_of_run mo (cmp64_gt x y) (ps_cons (ne_self x) (ps_cons (ne_self y) (ps_cons (decide_eq_false h1) (ps_cons (decide_eq_true h2) ps_nil)))) (by simp [cmpIV, cmp3, h1, h2])
      · exact gives_of_run mo (cmp64_eq x y) (ps_cons (ne_self x) (ps_cons (ne_self y) (ps_cons (decide_eq_false h1) (ps_cons (decide_eq_false h2) ps_nil)))) (by simp [cmpIV, cmp3, h1, h2])
  · exact h.elim
theorem cmpU_gives (args : List Value) (h : cmpP .u64 args) : Gives P 73 args.toArray (cmpIV args) := by
  unfold cmpP at h
  split at h
  · rename_i j x l y
    obtain ⟨rfl, rfl⟩ := h
    by_cases h1 : x < y
    · exact gives_of_run mo (cmpU_lt x y) (ps_cons (ne_self x) (ps_cons (ne_self y) (ps_cons (decide_eq_true h1) ps_nil))) (by simp [cmpIV, cmp3, h1])
    · by_cases h2 : y < x
      · exact gives_of_run mo (cmpU_gt x y) (ps_cons (ne_self x) (ps_cons (ne_self y) (ps_cons (decide_eq_false h1) (ps_cons (decide_eq_true h2) ps_nil)))) (by simp [cmpIV, cmp3, h1, h2])
      · exact gives_of_run mo (cmpU_eq x y) (ps_cons (ne_self x) (ps_cons (ne_self y) (ps_cons (decide_eq_false h1) (ps_cons (decide_eq_false h2) ps_nil)))) (by simp [cmpIV, cmp3, h1, h2])
  · exact h.elim
noncomputable def cmp64 : Ctr P := ⟨72, cmpP .i64, cmpIV, cmp64_gives⟩
noncomputable def cmpU : Ctr P := ⟨73, cmpP .u64, cmpIV, cmpU_gives⟩
noncomputable def E5 : Env P := ⟨[add64, low, plus, not, of, add, sub, neg, mul64, mul, cmp64, cmpU], [], 10, []⟩
def cmpV : List Value → Value
  | [x, y] => .int .i64 (cmp3 (tI x) (tI y))
  | _ => undef
def s3 (n : Int) : Int := IntKind.i64.wrap (w3 n)
theorem cmp_run3 (a b : Int) : runF P E5 1 47 [W a, W b] [.lit, .b false] =
    some (.int .i64 (cmp3 (s3 a) (s3 b)), [cmpP .i64 [.int .i64 (s3 a), .int .i64 (s3 b)], (cmp3 (s3 a) (s3 b) == 0) = false]) := by kernel_rfl
theorem cmp_run2 (a b : Int) : runF P E5 1 47 [W a, W b] [.lit, .b true, .lit, .lit, .lit, .b false] =
    some (.int .i64 (cmp3 (w2 a) (w2 b)), [cmpP .i64 [.int .i64 (s3 a), .int .i64 (s3 b)], (cmp3 (s3 a) (s3 b) == 0) = true, cmpP .u64 [.int .u64 (w2 a), .int .u64 (w2 b)], (cmp3 (w2 a) (w2 b) == 0) = false]) := by kernel_rfl
theorem cmp_run1 (a b : Int) : runF P E5 1 47 [W a, W b] [.lit, .b true, .lit, .lit, .lit, .b true, .lit, .lit, .lit, .b false] =
    some (.int .i64 (cmp3 (w1 a) (w1 b)), [cmpP .i64 [.int .i64 (s3 a), .int .i64 (s3 b)], (cmp3 (s3 a) (s3 b) == 0) = true, cmpP .u64 [.int .u64 (w2 a), .int .u64 (w2 b)], (cmp3 (w2 a) (w2 b) == 0) = true, cmpP .u64 [.int .u64 (w1 a), .int .u64 (w1 b)], (cmp3 (w1 a) (w1 b) == 0) = false]) := by kernel_rfl
theorem cmp_run0 (a b : Int) : runF P E5 1 47 [W a, W b] [.lit, .b true, .lit, .lit, .lit, .b true, .lit, .lit, .lit, .b true, .lit, .lit, .lit, .b false] =
    some (.int .i64 (cmp3 (w0 a) (w0 b)), [cmpP .i64 [.int .i64 (s3 a), .int .i64 (s3 b)], (cmp3 (s3 a) (s3 b) == 0) = true, cmpP .u64 [.int .u64 (w2 a), .int .u64 (w2 b)], (cmp3 (w2 a) (w2 b) == 0) = true, cmpP .u64 [.int .u64 (w1 a), .int .u64 (w1 b)], (cmp3 (w1 a) (w1 b) == 0) = true, cmpP .u64 [.int .u64 (w0 a), .int .u64 (w0 b)], (cmp3 (w0 a) (w0 b) == 0) = false]) := by kernel_rfl
theorem cmp_runE (a b : Int) : runF P E5 1 47 [W a, W b] [.lit, .b true, .lit, .lit, .lit, .b true, .lit, .lit, .lit, .b true, .lit, .lit, .lit, .b true] =
    some (.int .i64 (cmp3 (w0 a) (w0 b)), [cmpP .i64 [.int .i64 (s3 a), .int .i64 (s3 b)], (cmp3 (s3 a) (s3 b) == 0) = true, cmpP .u64 [.int .u64 (w2 a), .int .u64 (w2 b)], (cmp3 (w2 a) (w2 b) == 0) = true, cmpP .u64 [.int .u64 (w1 a), .int .u64 (w1 b)], (cmp3 (w1 a) (w1 b) == 0) = true, cmpP .u64 [.int .u64 (w0 a), .int .u64 (w0 b)], (cmp3 (w0 a) (w0 b) == 0) = true]) := by kernel_rfl
theorem cmp3_zero {x y : Int} : cmp3 x y = 0 ↔ x = y := by unfold cmp3; split <;> (try split) <;> omega
theorem cmp3_congr {x y u v : Int} (h1 : x < y ↔ u < v) (h2 : y < x ↔ v < u) : cmp3 x y = cmp3 u v := by
  unfold cmp3
  by_cases a : x < y
  · rw [if_pos a, if_pos (h1.1 a)]
  · rw [if_neg a, if_neg (fun h => a (h1.2 h))]
    by_cases b : y < x
    · rw [if_pos b, if_pos (h2.1 b)]
    · rw [if_neg b, if_neg (fun h => b (h2.2 h))]
theorem bm_words (n : Int) : bm n = w0 n + BB * w1 n + B2 * w2 n + B3 * s3 n := by
  have e := words_sum n
  have r0 := w0_range n
  have r1 := w1_range n
  have r2 := w2_range n
  have r3 := w3_range n
  have hm := bm_mod n
  have hr := bm_range n
  unfold InR at hr
  unfold s3
  rw [wrap_i64_word r3.1 r3.2]
  simp only [BB, B2, B3, MM, HH] at *
  split <;> omega
theorem cmp_gives (args : List Value) (h : P2 args) : Gives P 47 args.toArray (cmpV args) := by
  unfold P2 at h
  split at h
  · obtain ⟨⟨a, rfl⟩, ⟨b, rfl⟩⟩ := h
    have spec : cmpV [W a, W b] = .int .i64 (cmp3 (bm a) (bm b)) := by simp only [cmpV, tI_W]
    rw [spec, bm_words a, bm_words b]
    have a0 := w0_range a
    have a1 := w1_range a
    have a2 := w2_range a
    have b0 := w0_range b
    have b1 := w1_range b
    have b2 := w2_range b
    have c1 : cmpP .i64 [.int .i64 (s3 a), .int .i64 (s3 b)] := ⟨rfl, rfl⟩
    have c2 : cmpP .u64 [.int .u64 (w2 a), .int .u64 (w2 b)] := ⟨rfl, rfl⟩
    have c3 : cmpP .u64 [.int .u64 (w1 a), .int .u64 (w1 b)] := ⟨rfl, rfl⟩
    have c4 : cmpP .u64 [.int .u64 (w0 a), .int .u64 (w0 b)] := ⟨rfl, rfl⟩
    cases h3 : (cmp3 (s3 a) (s3 b) == 0) with
    | false =>
      refine gives_of_run mo (cmp_run3 a b) (ps_cons c1 (ps_cons h3 ps_nil)) ?_
      rw [beq_eq_false_iff_ne, ne_eq, cmp3_zero] at h3
      congr 1
      refine cmp3_congr ?_ ?_ <;> simp only [BB, B2, B3] at * <;> omega
    | true =>
      have e3 := cmp3_zero.1 (beq_iff_eq.1 h3)
      cases h2 : (cmp3 (w2 a) (w2 b) == 0) with
      | false =>
        refine gives_of_run mo (cmp_run2 a b) (ps_cons c1 (ps_cons h3 (ps_cons c2 (ps_cons h2 ps_nil)))) ?_
        rw [beq_eq_false_iff_ne, ne_eq, cmp3_zero] at h2
        congr 1
        refine cmp3_congr ?_ ?_ <;> simp only [BB, B2, B3] at * <;> omega
      | true =>
        have e2 := cmp3_zero.1 (beq_iff_eq.1 h2)
        cases h1 : (cmp3 (w1 a) (w1 b) == 0) with
        | false =>
          refine gives_of_run mo (cmp_run1 a b) (ps_cons c1 (ps_cons h3 (ps_cons c2 (ps_cons h2 (ps_cons c3 (ps_cons h1 ps_nil)))))) ?_
          rw [beq_eq_false_iff_ne, ne_eq, cmp3_zero] at h1
          congr 1
          refine cmp3_congr ?_ ?_ <;> simp only [BB, B2, B3] at * <;> omega
        | true =>
          have e1 := cmp3_zero.1 (beq_iff_eq.1 h1)
          have fin : Value.int .i64 (cmp3 (w0 a) (w0 b)) = .int .i64 (cmp3 (w0 a + BB * w1 a + B2 * w2 a + B3 * s3 a) (w0 b + BB * w1 b + B2 * w2 b + B3 * s3 b)) := by
            congr 1
            refine cmp3_congr ?_ ?_ <;> simp only [BB, B2, B3] at * <;> omega
          cases h0 : (cmp3 (w0 a) (w0 b) == 0) with
          | false => exact gives_of_run mo (cmp_run0 a b) (ps_cons c1 (ps_cons h3 (ps_cons c2 (ps_cons h2 (ps_cons c3 (ps_cons h1 (ps_cons c4 (ps_cons h0 ps_nil)))))))) fin
          | true => exact gives_of_run mo (cmp_runE a b) (ps_cons c1 (ps_cons h3 (ps_cons c2 (ps_cons h2 (ps_cons c3 (ps_cons h1 (ps_cons c4 (ps_cons h0 ps_nil)))))))) fin
  · exact h.elim
noncomputable def cmp : Ctr P := ⟨47, P2, cmpV, cmp_gives⟩
noncomputable def E6 : Env P := ⟨[add64, low, plus, not, of, add, sub, neg, mul64, mul, cmp64, cmpU, cmp], [], 10, []⟩
def signV : List Value → Value
  | [x] => .int .i64 (cmp3 (tI x) 0)
  | _ => undef
theorem sign_run (a : Int) : runF P E6 1 50 [W a] [] = some (.int .i64 (cmp3 (tI (W a)) (tI (W 0))), [P2 [W a, W 0]]) := by kernel_rfl
theorem sign_gives (args : List Value) (h : P1 args) : Gives P 50 args.toArray (signV args) := by
  unfold P1 at h
  split at h
  · obtain ⟨n, rfl⟩ := h
    refine gives_of_run mo (sign_run n) (ps_cons ⟨IsW_W _, IsW_W _⟩ ps_nil) ?_
    rw [tI_W0]
    rfl
  · exact h.elim
noncomputable def sign : Ctr P := ⟨50, P1, signV, sign_gives⟩
def i64B (n : Int) : Bool := decide (-9223372036854775808 ≤ n) && decide (n < 9223372036854775808)
def intV : List Value → Value
  | [x] => .tuple #[.int .i64 (if i64B (tI x) then tI x else 0), .bool (i64B (tI x))]
  | _ => undef
def l64 (n : Int) : Int := IntKind.i64.wrap (w0 n)
theorem int_run1 (a : Int) : runF P E6 1 31 [W a] [.b true] = some (.tuple #[.int .i64 (l64 a), .bool true], [I64 (l64 a), weq a (l64 a) = true]) := by kernel_rfl
theorem int_run2 (a : Int) : runF P E6 1 31 [W a] [.b false] = some (.tuple #[.int .i64 0, .bool false], [I64 (l64 a), weq a (l64 a) = false]) := by kernel_rfl
theorem wrap_i64_range (n : Int) : I64 (IntKind.i64.wrap n) := by
  have e : IntKind.i64.wrap n = if n % 18446744073709551616 ≥ 9223372036854775808 then n % 18446744073709551616 - 18446744073709551616 else n % 18446744073709551616 := by
    simp [IntKind.wrap, IntKind.signed, IntKind.bits]
  unfold I64
  rw [e]
  split <;> omega
theorem l64_spec (n : Int) : (weq n (l64 n) = true ↔ i64B (bm n) = true) ∧ (i64B (bm n) = true → l64 n = bm n) := by
  have e := words_sum n
  have r0 := w0_range n
  have r1 := w1_range n
  have r2 := w2_range n
  have r3 := w3_range n
  have hm := bm_mod n
  have hr := bm_range n
  unfold InR at hr
  rw [weq_iff]
  unfold i64B l64
  rw [wrap_i64_word r0.1 r0.2]
  simp only [Bool.and_eq_true, decide_eq_true_eq]
  simp only [BB, B2, B3, MM, HH] at *
  split <;> omega
theorem int_gives (args : List Value) (h : P1 args) : Gives P 31 args.toArray (intV args) := by
  unfold P1 at h
  split at h
  · obtain ⟨n, rfl⟩ := h
    have spec : intV [W n] = .tuple #[.int .i64 (if i64B (bm n) then bm n else 0), .bool (i64B (bm n))] := by simp only [intV, tI_W]
    rw [spec]
    obtain ⟨h1, h2⟩ := l64_spec n
    cases hw : weq n (l64 n) with
    | true =>
      refine gives_of_run mo (int_run1 n) (ps_cons (wrap_i64_range _) (ps_cons hw ps_nil)) ?_
      have hb := h1.1 hw
      rw [hb, h2 hb]
      rfl
    | false =>
      refine gives_of_run mo (int_run2 n) (ps_cons (wrap_i64_range _) (ps_cons hw ps_nil)) ?_
      have hb : i64B (bm n) = false := by
        cases hc : i64B (bm n) with
        | false => rfl
        | true => rw [h1.2 hc] at hw; cases hw
      rw [hb]
      rfl
  · exact h.elim
noncomputable def int : Ctr P := ⟨31, P1, intV, int_gives⟩
noncomputable def wideC : List (Ctr P) := [of, int, neg, add, sub, mul, cmp, sign]
end Go.Wd
