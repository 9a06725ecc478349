/-
  Contracts of package wide's functions, first part: sums and differences, signs.
-/
import Derived.Test.YtjfcndiodbaejaaDoorProg
import Derived.Test.YtjfcndiodbaejaaDoorSxI
import Derived.Test.YtjfcndiodbaejaaDoorNum
import Derived.KernelRfl
set_option maxRecDepth 100000
namespace Go.Wd
open Go Go.RowKit Go.Sx Go.Nm Go.Proofs

noncomputable abbrev P : Program := Tryd.prog
theorem mo : P.follows .mixedOrders = true := by kernel_rfl

/-! ### math/bits.Add64 -/
def add64V : List Value → Value
  | [.int _ x, .int _ y, .int _ c] => .tuple #[.int .u64 ((x + y + c) % BB), .int .u64 ((x + y + c) / BB)]
  | _ => undef
def add64P : List Value → Prop
  | [.int .u64 x, .int .u64 y, .int .u64 c] => 0 ≤ x ∧ 0 ≤ y ∧ 0 ≤ c ∧ c ≤ 1
  | _ => False

theorem add64_gives (args : List Value) (h : add64P args) : Gives P 124 args.toArray (add64V args) := by
  unfold add64P at h
  split at h
  · rename_i x y c
    refine gives_of_value fun w => ?_
    have hx := run_callFunc_extern (P := P) (f := 124) (e := add64Entry) Tryd.func124 (by kernel_rfl) (by kernel_rfl) (by kernel_rfl) (by kernel_rfl) #[.int .u64 x, .int .u64 y, .int .u64 c] w
    rw [run_add64 x y c h.1 h.2.1 h.2.2.1 h.2.2.2 w] at hx
    exact hx
  · exact h.elim

noncomputable def add64 : Ctr P := ⟨124, add64P, add64V, add64_gives⟩

/-! ### low, not, plus -/
def IsW (v : Value) : Prop := ∃ n, v = W n
theorem IsW_W (n : Int) : IsW (W n) := ⟨n, rfl⟩

def P1 : List Value → Prop
  | [x] => IsW x
  | _ => False
def P2 : List Value → Prop
  | [x, y] => IsW x ∧ IsW y
  | _ => False

def lowV : List Value → Value
  | [x] => .bool (decide (tI x < 0))
  | _ => undef

noncomputable def E0 : Env P := ⟨[add64], [], 10, []⟩

theorem low_run (n : Int) : runF P E0 1 121 [W n] [] = some (.bool (decide (IntKind.i64.wrap (w3 n) < 0)), []) := by kernel_rfl

theorem low_gives (args : List Value) (h : P1 args) : Gives P 121 args.toArray (lowV args) := by
  unfold P1 at h
  split at h
  · obtain ⟨n, rfl⟩ := h
    refine gives_of_run mo (low_run n) ps_nil ?_
    rw [low_w3]
    simp only [lowV, tI_W]
  · exact h.elim

noncomputable def low : Ctr P := ⟨121, P1, lowV, low_gives⟩

def k1 (a b c : Int) : Int := (w0 a + w0 b + c) / BB
def k2 (a b c : Int) : Int := (w1 a + w1 b + k1 a b c) / BB
def k3 (a b c : Int) : Int := (w2 a + w2 b + k2 a b c) / BB

theorem plus_run (a b c : Int) : runF P E0 4 134 [W a, W b, .int .u64 c] [] =
    some (.agg #[.int .u64 ((w0 a + w0 b + c) % BB), .int .u64 ((w1 a + w1 b + k1 a b c) % BB), .int .u64 ((w2 a + w2 b + k2 a b c) % BB), .int .u64 ((w3 a + w3 b + k3 a b c) % BB)],
      [add64P [.int .u64 (w0 a), .int .u64 (w0 b), .int .u64 c], add64P [.int .u64 (w1 a), .int .u64 (w1 b), .int .u64 (k1 a b c)], add64P [.int .u64 (w2 a), .int .u64 (w2 b), .int .u64 (k2 a b c)], add64P [.int .u64 (w3 a), .int .u64 (w3 b), .int .u64 (k3 a b c)]]) := by kernel_rfl

theorem plus_sum (a b c : Int) :
    (.agg #[.int .u64 ((w0 a + w0 b + c) % BB), .int .u64 ((w1 a + w1 b + k1 a b c) % BB), .int .u64 ((w2 a + w2 b + k2 a b c) % BB), .int .u64 ((w3 a + w3 b + k3 a b c) % BB)] : Value) = W (a + b + c) := by
  have ea := words_sum a
  have eb := words_sum b
  have a0 := w0_range a
  have a1 := w1_range a
  have a2 := w2_range a
  have a3 := w3_range a
  have b0 := w0_range b
  have b1 := w1_range b
  have b2 := w2_range b
  have b3 := w3_range b
  unfold k3 k2 k1
  generalize w0 a = x0 at *
  generalize w1 a = x1 at *
  generalize w2 a = x2 at *
  generalize w3 a = x3 at *
  generalize w0 b = y0 at *
  generalize w1 b = y1 at *
  generalize w2 b = y2 at *
  generalize w3 b = y3 at *
  refine W_of ?_ ?_ ?_ ?_ ?_ ?_ ?_ ?_ ?_ <;> simp only [BB, B2, B3, MM] at * <;> omega

def plusV : List Value → Value
  | [x, y, .int _ c] => W (tI x + tI y + c)
  | _ => undef
def plusP : List Value → Prop
  | [x, y, .int .u64 c] => IsW x ∧ IsW y ∧ 0 ≤ c ∧ c ≤ 1
  | _ => False

theorem W_bm_add (a b c : Int) : W (bm a + bm b + c) = W (a + b + c) := W_congr (by
  have := bm_mod a
  have := bm_mod b
  simp only [MM] at *
  omega)

theorem plus_gives (args : List Value) (h : plusP args) : Gives P 134 args.toArray (plusV args) := by
  unfold plusP at h
  split at h
  · obtain ⟨⟨a, rfl⟩, ⟨b, rfl⟩, h0, h1⟩ := h
    rename_i c
    have a0 := w0_range a
    have a1 := w1_range a
    have a2 := w2_range a
    have a3 := w3_range a
    have b0 := w0_range b
    have b1 := w1_range b
    have b2 := w2_range b
    have b3 := w3_range b
    have e1 : 0 ≤ k1 a b c ∧ k1 a b c ≤ 1 := by unfold k1; simp only [BB] at *; omega
    have e2 : 0 ≤ k2 a b c ∧ k2 a b c ≤ 1 := by unfold k2; simp only [BB] at *; omega
    have e3 : 0 ≤ k3 a b c ∧ k3 a b c ≤ 1 := by unfold k3; simp only [BB] at *; omega
    refine gives_of_run mo (plus_run a b c) (ps_cons ⟨a0.1, b0.1, h0, h1⟩ (ps_cons ⟨a1.1, b1.1, e1⟩ (ps_cons ⟨a2.1, b2.1, e2⟩ (ps_cons ⟨a3.1, b3.1, e3⟩ ps_nil)))) ?_
    rw [plus_sum a b c]
    simp only [plusV, tI_W, W_bm_add]
  · exact h.elim

noncomputable def plus : Ctr P := ⟨134, plusP, plusV, plus_gives⟩
end Go.Wd
