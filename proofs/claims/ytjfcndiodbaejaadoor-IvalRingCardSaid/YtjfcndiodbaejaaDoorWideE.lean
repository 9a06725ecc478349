/-
  Contracts of package wide's functions, fifth part: order, ints.
-/
import Derived.Test.YtjfcndiodbaejaaDoorWideD
set_option maxRecDepth 100000
namespace Go.Wd
open Go Go.RowKit Go.Sx Go.Nm Go.Proofs

/-! ### cmp.Compare -/
def cmp3 (x y : Int) : Int := if x < y then -1 else if y < x then 1 else 0
def cmpIV : List Value → Value
  | [.int _ x, .int _ y] => .int .i64 (cmp3 x y)
  | _ => undef
def cmpP (k : IntKind) : List Value → Prop
  | [.int j _, .int l _] => j = k ∧ l = k
  | _ => False

theorem cmp64_lt (x y : Int) : runF P E4 2 87 [.int .i64 x, .int .i64 y] [.b false, .b false, .b true] =
    some (.int .i64 (-1), [(x != x) = false, (y != y) = false, decide (x < y) = true]) := by kernel_rfl
theorem cmp64_gt (x y : Int) : runF P E4 2 87 [.int .i64 x, .int .i64 y] [.b false, .b false, .b false, .b true] =
    some (.int .i64 1, [(x != x) = false, (y != y) = false, decide (x < y) = false, decide (x > y) = true]) := by kernel_rfl
theorem cmp64_eq (x y : Int) : runF P E4 2 87 [.int .i64 x, .int .i64 y] [.b false, .b false, .b false, .b false] =
    some (.int .i64 0, [(x != x) = false, (y != y) = false, decide (x < y) = false, decide (x > y) = false]) := by kernel_rfl
theorem cmpU_lt (x y : Int) : runF P E4 2 88 [.int .u64 x, .int .u64 y] [.b false, .b false, .b true] =
    some (.int .i64 (-1), [(x != x) = false, (y != y) = false, decide (x < y) = true]) := by kernel_rfl
theorem cmpU_gt (x y : Int) : runF P E4 2 88 [.int .u64 x, .int .u64 y] [.b false, .b false, .b false, .b true] =
    some (.int .i64 1, [(x != x) = false, (y != y) = false, decide (x < y) = false, decide (x > y) = true]) := by kernel_rfl
theorem cmpU_eq (x y : Int) : runF P E4 2 88 [.int .u64 x, .int .u64 y] [.b false, .b false, .b false, .b false] =
    some (.int .i64 0, [(x != x) = false, (y != y) = false, decide (x < y) = false, decide (x > y) = false]) := by kernel_rfl

theorem ne_self (x : Int) : (x != x) = false := by simp

theorem cmp64_gives (args : List Value) (h : cmpP .i64 args) : Gives P 87 args.toArray (cmpIV args) := by
  unfold cmpP at h
  split at h
  · rename_i j x l y
    obtain ⟨rfl, rfl⟩ := h
    by_cases h1 : x < y
    · exact gives_of_run mo (cmp64_lt x y) (ps_cons (ne_self x) (ps_cons (ne_self y) (ps_cons (decide_eq_true h1) ps_nil))) (by simp [cmpIV, cmp3, h1])
    · by_cases h2 : y < x
      · exact gives_of_run mo (cmp64_gt x y) (ps_cons (ne_self x) (ps_cons (ne_self y) (ps_cons (decide_eq_false h1) (ps_cons (decide_eq_true h2) ps_nil)))) (by simp [cmpIV, cmp3, h1, h2])
      · exact gives_of_run mo (cmp64_eq x y) (ps_cons (ne_self x) (ps_cons (ne_self y) (ps_cons (decide_eq_false h1) (ps_cons (decide_eq_false h2) ps_nil)))) (by simp [cmpIV, cmp3, h1, h2])
  · exact h.elim

theorem cmpU_gives (args : List Value) (h : cmpP .u64 args) : Gives P 88 args.toArray (cmpIV args) := by
  unfold cmpP at h
  split at h
  · rename_i j x l y
    obtain ⟨rfl, rfl⟩ := h
    by_cases h1 : x < y
    · exact gives_of_run mo (cmpU_lt x y) (ps_cons (ne_self x) (ps_cons (ne_self y) (ps_cons (decide_eq_true h1) ps_nil))) (by simp [cmpIV, cmp3, h1])
    · by_cases h2 : y < x
      · exact gives_of_run mo (cmpU_gt x y) (ps_cons (ne_self x) (ps_cons (ne_self y) (ps_cons (decide_eq_false h1) (ps_cons (decide_eq_true h2) ps_nil)))) (by simp [cmpIV, cmp3, h1, h2])
      · exact gives_of_run mo (cmpU_eq x y) (ps_cons (ne_self x) (ps_cons (ne_self y) (ps_cons (decide_eq_false h1) (ps_cons (decide_eq_false h2) ps_nil)))) (by simp [cmpIV, cmp3, h1, h2])
  · exact h.elim

noncomputable def cmp64 : Ctr P := ⟨87, cmpP .i64, cmpIV, cmp64_gives⟩
noncomputable def cmpU : Ctr P := ⟨88, cmpP .u64, cmpIV, cmpU_gives⟩

/-! ### Cmp -/
noncomputable def E5 : Env P := ⟨[add64, low, plus, not, of, add, sub, neg, mul64, mul, cmp64, cmpU], [], 10, []⟩

def cmpV : List Value → Value
  | [x, y] => .int .i64 (cmp3 (tI x) (tI y))
  | _ => undef

def s3 (n : Int) : Int := IntKind.i64.wrap (w3 n)

theorem cmp_run3 (a b : Int) : runF P E5 1 62 [W a, W b] [.lit, .b false] =
    some (.int .i64 (cmp3 (s3 a) (s3 b)), [cmpP .i64 [.int .i64 (s3 a), .int .i64 (s3 b)], (cmp3 (s3 a) (s3 b) == 0) = false]) := by kernel_rfl
theorem cmp_run2 (a b : Int) : runF P E5 1 62 [W a, W b] [.lit, .b true, .lit, .lit, .lit, .b false] =
    some (.int .i64 (cmp3 (w2 a) (w2 b)), [cmpP .i64 [.int .i64 (s3 a), .int .i64 (s3 b)], (cmp3 (s3 a) (s3 b) == 0) = true, cmpP .u64 [.int .u64 (w2 a), .int .u64 (w2 b)], (cmp3 (w2 a) (w2 b) == 0) = false]) := by kernel_rfl
theorem cmp_run1 (a b : Int) : runF P E5 1 62 [W a, W b] [.lit, .b true, .lit, .lit, .lit, .b true, .lit, .lit, .lit, .b false] =
    some (.int .i64 (cmp3 (w1 a) (w1 b)), [cmpP .i64 [.int .i64 (s3 a), .int .i64 (s3 b)], (cmp3 (s3 a) (s3 b) == 0) = true, cmpP .u64 [.int .u64 (w2 a), .int .u64 (w2 b)], (cmp3 (w2 a) (w2 b) == 0) = true,
      cmpP .u64 [.int .u64 (w1 a), .int .u64 (w1 b)], (cmp3 (w1 a) (w1 b) == 0) = false]) := by kernel_rfl
theorem cmp_run0 (a b : Int) : runF P E5 1 62 [W a, W b] [.lit, .b true, .lit, .lit, .lit, .b true, .lit, .lit, .lit, .b true, .lit, .lit, .lit, .b false] =
    some (.int .i64 (cmp3 (w0 a) (w0 b)), [cmpP .i64 [.int .i64 (s3 a), .int .i64 (s3 b)], (cmp3 (s3 a) (s3 b) == 0) = true, cmpP .u64 [.int .u64 (w2 a), .int .u64 (w2 b)], (cmp3 (w2 a) (w2 b) == 0) = true,
      cmpP .u64 [.int .u64 (w1 a), .int .u64 (w1 b)], (cmp3 (w1 a) (w1 b) == 0) = true, cmpP .u64 [.int .u64 (w0 a), .int .u64 (w0 b)], (cmp3 (w0 a) (w0 b) == 0) = false]) := by kernel_rfl
theorem cmp_runE (a b : Int) : runF P E5 1 62 [W a, W b] [.lit, .b true, .lit, .lit, .lit, .b true, .lit, .lit, .lit, .b true, .lit, .lit, .lit, .b true] =
    some (.int .i64 (cmp3 (w0 a) (w0 b)), [cmpP .i64 [.int .i64 (s3 a), .int .i64 (s3 b)], (cmp3 (s3 a) (s3 b) == 0) = true, cmpP .u64 [.int .u64 (w2 a), .int .u64 (w2 b)], (cmp3 (w2 a) (w2 b) == 0) = true,
      cmpP .u64 [.int .u64 (w1 a), .int .u64 (w1 b)], (cmp3 (w1 a) (w1 b) == 0) = true, cmpP .u64 [.int .u64 (w0 a), .int .u64 (w0 b)], (cmp3 (w0 a) (w0 b) == 0) = true]) := by kernel_rfl

theorem cmp3_zero {x y : Int} : cmp3 x y = 0 ↔ x = y := by unfold cmp3; split <;> (try split) <;> omega

theorem cmp3_congr {x y u v : Int} (h1 : x < y ↔ u < v) (h2 : y < x ↔ v < u) : cmp3 x y = cmp3 u v := by
  unfold cmp3
  by_cases a : x < y
  · rw [if_pos a, if_pos (h1.1 a)]
  · rw [if_neg a, if_neg (fun h => a (h1.2 h))]
    by_cases b : y < x
    · rw [if_pos b, if_pos (h2.1 b)]
    · rw [if_neg b, if_neg (fun h => b (h2.2 h))]

theorem bm_words (n : Int) : bm n = w0 n + BB * w1 n + B2 * w2 n + B3 * s3 n := by
  have e := words_sum n
  have r0 := w0_range n
  have r1 := w1_range n
  have r2 := w2_range n
  have r3 := w3_range n
  have hm := bm_mod n
  have hr := bm_range n
  unfold InR at hr
  unfold s3
  rw [wrap_i64_word r3.1 r3.2]
  simp only [BB, B2, B3, MM, HH] at *
  split <;> omega

theorem cmp_gives (args : List Value) (h : P2 args) : Gives P 62 args.toArray (cmpV args) := by
  unfold P2 at h
  split at h
  · obtain ⟨⟨a, rfl⟩, ⟨b, rfl⟩⟩ := h
    have spec : cmpV [W a, W b] = .int .i64 (cmp3 (bm a) (bm b)) := by simp only [cmpV, tI_W]
    rw [spec, bm_words a, bm_words b]
    have a0 := w0_range a
    have a1 := w1_range a
    have a2 := w2_range a
    have b0 := w0_range b
    have b1 := w1_range b
    have b2 := w2_range b
    have c1 : cmpP .i64 [.int .i64 (s3 a), .int .i64 (s3 b)] := ⟨rfl, rfl⟩
    have c2 : cmpP .u64 [.int .u64 (w2 a), .int .u64 (w2 b)] := ⟨rfl, rfl⟩
    have c3 : cmpP .u64 [.int .u64 (w1 a), .int .u64 (w1 b)] := ⟨rfl, rfl⟩
    have c4 : cmpP .u64 [.int .u64 (w0 a), .int .u64 (w0 b)] := ⟨rfl, rfl⟩
    cases h3 : (cmp3 (s3 a) (s3 b) == 0) with
    | false =>
      refine gives_of_run mo (cmp_run3 a b) (ps_cons c1 (ps_cons h3 ps_nil)) ?_
      rw [beq_eq_false_iff_ne, ne_eq, cmp3_zero] at h3
      congr 1
      refine cmp3_congr ?_ ?_ <;> simp only [BB, B2, B3] at * <;> omega
    | true =>
      have e3 := cmp3_zero.1 (beq_iff_eq.1 h3)
      cases h2 : (cmp3 (w2 a) (w2 b) == 0) with
      | false =>
        refine gives_of_run mo (cmp_run2 a b) (ps_cons c1 (ps_cons h3 (ps_cons c2 (ps_cons h2 ps_nil)))) ?_
        rw [beq_eq_false_iff_ne, ne_eq, cmp3_zero] at h2
        congr 1
        refine cmp3_congr ?_ ?_ <;> simp only [BB, B2, B3] at * <;> omega
      | true =>
        have e2 := cmp3_zero.1 (beq_iff_eq.1 h2)
        cases h1 : (cmp3 (w1 a) (w1 b) == 0) with
        | false =>
          refine gives_of_run mo (cmp_run1 a b) (ps_cons c1 (ps_cons h3 (ps_cons c2 (ps_cons h2 (ps_cons c3 (ps_cons h1 ps_nil)))))) ?_
          rw [beq_eq_false_iff_ne, ne_eq, cmp3_zero] at h1
          congr 1
          refine cmp3_congr ?_ ?_ <;> simp only [BB, B2, B3] at * <;> omega
        | true =>
          have e1 := cmp3_zero.1 (beq_iff_eq.1 h1)
          have fin : Value.int .i64 (cmp3 (w0 a) (w0 b)) = .int .i64 (cmp3 (w0 a + BB * w1 a + B2 * w2 a + B3 * s3 a) (w0 b + BB * w1 b + B2 * w2 b + B3 * s3 b)) := by
            congr 1
            refine cmp3_congr ?_ ?_ <;> simp only [BB, B2, B3] at * <;> omega
          cases h0 : (cmp3 (w0 a) (w0 b) == 0) with
          | false => exact gives_of_run mo (cmp_run0 a b) (ps_cons c1 (ps_cons h3 (ps_cons c2 (ps_cons h2 (ps_cons c3 (ps_cons h1 (ps_cons c4 (ps_cons h0 ps_nil)))))))) fin
          | true => exact gives_of_run mo (cmp_runE a b) (ps_cons c1 (ps_cons h3 (ps_cons c2 (ps_cons h2 (ps_cons c3 (ps_cons h1 (ps_cons c4 (ps_cons h0 ps_nil)))))))) fin
  · exact h.elim

noncomputable def cmp : Ctr P := ⟨62, P2, cmpV, cmp_gives⟩

/-! ### Sign, Int -/
noncomputable def E6 : Env P := ⟨[add64, low, plus, not, of, add, sub, neg, mul64, mul, cmp64, cmpU, cmp], [], 10, []⟩
def signV : List Value → Value
  | [x] => .int .i64 (cmp3 (tI x) 0)
  | _ => undef
theorem sign_run (a : Int) : runF P E6 1 118 [W a] [] = some (.int .i64 (cmp3 (tI (W a)) (tI (W 0))), [P2 [W a, W 0]]) := by kernel_rfl
theorem sign_gives (args : List Value) (h : P1 args) : Gives P 118 args.toArray (signV args) := by
  unfold P1 at h
  split at h
  · obtain ⟨n, rfl⟩ := h
    refine gives_of_run mo (sign_run n) (ps_cons ⟨IsW_W _, IsW_W _⟩ ps_nil) ?_
    rw [tI_W0]
    rfl
  · exact h.elim
noncomputable def sign : Ctr P := ⟨118, P1, signV, sign_gives⟩

def i64B (n : Int) : Bool := decide (-9223372036854775808 ≤ n) && decide (n < 9223372036854775808)
def intV : List Value → Value
  | [x] => .tuple #[.int .i64 (if i64B (tI x) then tI x else 0), .bool (i64B (tI x))]
  | _ => undef

def l64 (n : Int) : Int := IntKind.i64.wrap (w0 n)
theorem int_run1 (a : Int) : runF P E6 1 85 [W a] [.b true] = some (.tuple #[.int .i64 (l64 a), .bool true], [I64 (l64 a), weq a (l64 a) = true]) := by kernel_rfl
theorem int_run2 (a : Int) : runF P E6 1 85 [W a] [.b false] = some (.tuple #[.int .i64 0, .bool false], [I64 (l64 a), weq a (l64 a) = false]) := by kernel_rfl

theorem wrap_i64_range (n : Int) : I64 (IntKind.i64.wrap n) := by
  have e : IntKind.i64.wrap n = if n % 18446744073709551616 ≥ 9223372036854775808 then n % 18446744073709551616 - 18446744073709551616 else n % 18446744073709551616 := by
    simp [IntKind.wrap, IntKind.signed, IntKind.bits]
  unfold I64
  rw [e]
  split <;> omega

theorem l64_spec (n : Int) : (weq n (l64 n) = true ↔ i64B (bm n) = true) ∧ (i64B (bm n) = true → l64 n = bm n) := by
  have e := words_sum n
  have r0 := w0_range n
  have r1 := w1_range n
  have r2 := w2_range n
  have r3 := w3_range n
  have hm := bm_mod n
  have hr := bm_range n
  unfold InR at hr
  rw [weq_iff]
  unfold i64B l64
  rw [wrap_i64_word r0.1 r0.2]
  simp only [Bool.and_eq_true, decide_eq_true_eq]
  simp only [BB, B2, B3, MM, HH] at *
  split <;> omega

theorem int_gives (args : List Value) (h : P1 args) : Gives P 85 args.toArray (intV args) := by
  unfold P1 at h
  split at h
  · obtain ⟨n, rfl⟩ := h
    have spec : intV [W n] = .tuple #[.int .i64 (if i64B (bm n) then bm n else 0), .bool (i64B (bm n))] := by simp only [intV, tI_W]
    rw [spec]
    obtain ⟨h1, h2⟩ := l64_spec n
    cases hw : weq n (l64 n) with
    | true =>
      refine gives_of_run mo (int_run1 n) (ps_cons (wrap_i64_range _) (ps_cons hw ps_nil)) ?_
      have hb := h1.1 hw
      rw [hb, h2 hb]
      rfl
    | false =>
      refine gives_of_run mo (int_run2 n) (ps_cons (wrap_i64_range _) (ps_cons hw ps_nil)) ?_
      have hb : i64B (bm n) = false := by
        cases hc : i64B (bm n) with
        | false => rfl
        | true => rw [h1.2 hc] at hw; cases hw
      rw [hb]
      rfl
  · exact h.elim
noncomputable def int : Ctr P := ⟨85, P1, intV, int_gives⟩

/-- Package wide's exported functions, by what they say of whole numbers. -/
noncomputable def wideC : List (Ctr P) := [of, int, neg, add, sub, mul, cmp, sign]
end Go.Wd
