/-
  Contracts of package quot, third part: size, shift. Printed by quotC.py.
-/
import Derived.Test.YtjfcndiodbaejaaDoorQuotB
set_option maxRecDepth 100000
namespace Go.Qt
open Go Go.RowKit Go.Sx Go.Nm Go.Wd Go.Proofs

noncomputable def Q1 : Env P := ⟨[len64], [], 10, []⟩
/-! ### size -/
def sizeV : List Value → Value
  | [x] => .int .i64 (bl (tI x % MM))
  | _ => undef
theorem u64P_w {n : Int} (h : 0 ≤ n ∧ n < BB) : u64P [.int .u64 n] := h
theorem bl_nonneg (x : Int) : 0 ≤ bl x := by unfold bl; split <;> omega
theorem bl_le {x : Int} (k : Nat) (h : 0 ≤ x) (h2 : x < 2 ^ k) : bl x ≤ k := by
  unfold bl
  by_cases e : x = 0
  · rw [if_pos e]; omega
  · rw [if_neg e]
    obtain ⟨n, rfl⟩ : ∃ n : Nat, x = n := ⟨x.toNat, by omega⟩
    simp only [Int.toNat_natCast]
    have hn : n < 2 ^ k := by
      have : (n : Int) < ((2 ^ k : Nat) : Int) := by simpa using h2
      omega
    have := (Nat.log2_lt (n := n) (k := k) (by omega)).2 hn
    omega
theorem bl64 {x : Int} (h : 0 ≤ x ∧ x < BB) : 0 ≤ bl x ∧ bl x ≤ 64 := by
  have e : (2 : Int) ^ 64 = BB := by decide
  exact ⟨bl_nonneg x, bl_le 64 h.1 (by rw [e]; exact h.2)⟩
theorem sum_w {a : Int} : tI (W a) % MM = w0 a + BB * w1 a + B2 * w2 a + B3 * w3 a := by rw [tI_W, bm_mod, words_sum]
theorem size3 {a : Int} (h : (w3 a != 0) = true) : Value.int .i64 (IntKind.i64.wrap (192 + bl (w3 a))) = .int .i64 (bl (tI (W a) % MM)) := by
  have r0 := w0_range a
  have r1 := w1_range a
  have r2 := w2_range a
  have r3 := w3_range a
  have hb := bl64 r3
  rw [bne_iff_ne] at h
  have e : (2 : Int) ^ 192 = B3 := by decide
  have k := bl_div (x := tI (W a) % MM) 192 (by rw [e, sum_w]; simp only [BB, B2, B3] at *; omega)
  have d : (tI (W a) % MM) / 2 ^ 192 = w3 a := by rw [e, sum_w]; simp only [BB, B2, B3] at *; omega
  rw [wrap_i64_in (by omega) (by omega), k, d]
  rfl
theorem size2 {a : Int} (h3 : (w3 a != 0) = false) (h : (w2 a != 0) = true) : Value.int .i64 (IntKind.i64.wrap (128 + bl (w2 a))) = .int .i64 (bl (tI (W a) % MM)) := by
  have r0 := w0_range a
  have r1 := w1_range a
  have r2 := w2_range a
  have hb := bl64 r2
  rw [bne_iff_ne] at h
  rw [bne_eq_false_iff_eq] at h3
  have e : (2 : Int) ^ 128 = B2 := by decide
  have k := bl_div (x := tI (W a) % MM) 128 (by rw [e, sum_w, h3]; simp only [BB, B2, B3] at *; omega)
  have d : (tI (W a) % MM) / 2 ^ 128 = w2 a := by rw [e, sum_w, h3]; simp only [BB, B2, B3] at *; omega
  rw [wrap_i64_in (by omega) (by omega), k, d]
  rfl
theorem size1 {a : Int} (h3 : (w3 a != 0) = false) (h2 : (w2 a != 0) = false) (h : (w1 a != 0) = true) : Value.int .i64 (IntKind.i64.wrap (64 + bl (w1 a))) = .int .i64 (bl (tI (W a) % MM)) := by
  have r0 := w0_range a
  have r1 := w1_range a
  have hb := bl64 r1
  rw [bne_iff_ne] at h
  rw [bne_eq_false_iff_eq] at h3 h2
  have e : (2 : Int) ^ 64 = BB := by decide
  have k := bl_div (x := tI (W a) % MM) 64 (by rw [e, sum_w, h3, h2]; simp only [BB, B2, B3] at *; omega)
  have d : (tI (W a) % MM) / 2 ^ 64 = w1 a := by rw [e, sum_w, h3, h2]; simp only [BB, B2, B3] at *; omega
  rw [wrap_i64_in (by omega) (by omega), k, d]
  rfl
theorem size0 {a : Int} (h3 : (w3 a != 0) = false) (h2 : (w2 a != 0) = false) (h1 : (w1 a != 0) = false) : Value.int .i64 (bl (w0 a)) = .int .i64 (bl (tI (W a) % MM)) := by
  rw [bne_eq_false_iff_eq] at h3 h2 h1
  rw [sum_w, h3, h2, h1]
  simp
theorem size_run0 (a : Int) : runF P Q1 1 141 [W a] (.lit :: (.lit :: (.lit :: (.b true :: [])))) =
  some (.int .i64 (IntKind.i64.wrap (192 + (bl (w3 a)))),
    [(w3 a != 0) = true,
     u64P [.int .u64 (w3 a)]]) := by kernel_rfl

theorem size_run1 (a : Int) : runF P Q1 1 141 [W a] (.lit :: (.lit :: (.lit :: (.b false :: (.lit :: (.lit :: (.b true :: []))))))) =
  some (.int .i64 (IntKind.i64.wrap (128 + (bl (w2 a)))),
    [(w3 a != 0) = false,
     (w2 a != 0) = true,
     u64P [.int .u64 (w2 a)]]) := by kernel_rfl

theorem size_run2 (a : Int) : runF P Q1 1 141 [W a] (.lit :: (.lit :: (.lit :: (.b false :: (.lit :: (.lit :: (.b false :: (.lit :: (.lit :: (.b true :: [])))))))))) =
  some (.int .i64 (IntKind.i64.wrap (64 + (bl (w1 a)))),
    [(w3 a != 0) = false,
     (w2 a != 0) = false,
     (w1 a != 0) = true,
     u64P [.int .u64 (w1 a)]]) := by kernel_rfl

theorem size_run3 (a : Int) : runF P Q1 1 141 [W a] (.lit :: (.lit :: (.lit :: (.b false :: (.lit :: (.lit :: (.b false :: (.lit :: (.lit :: (.b false :: [])))))))))) =
  some (.int .i64 (bl (w0 a)),
    [(w3 a != 0) = false,
     (w2 a != 0) = false,
     (w1 a != 0) = false,
     u64P [.int .u64 (w0 a)]]) := by kernel_rfl

theorem size_gives (args : List Value) (h : P1 args) : Gives P 141 args.toArray (sizeV args) := by
  unfold P1 at h
  split at h
  · obtain ⟨a, rfl⟩ := h
    cases q1 : (w3 a != 0) with
    | true =>
      refine gives_of_run mo (size_run0 a) (ps_cons q1 (ps_cons (u64P_w (w3_range a)) ps_nil)) ?_
      exact size3 q1
    | false =>
      cases q2 : (w2 a != 0) with
      | true =>
        refine gives_of_run mo (size_run1 a) (ps_cons q1 (ps_cons q2 (ps_cons (u64P_w (w2_range a)) ps_nil))) ?_
        exact size2 q1 q2
      | false =>
        cases q3 : (w1 a != 0) with
        | true =>
          refine gives_of_run mo (size_run2 a) (ps_cons q1 (ps_cons q2 (ps_cons q3 (ps_cons (u64P_w (w1_range a)) ps_nil)))) ?_
          exact size1 q1 q2 q3
        | false =>
          refine gives_of_run mo (size_run3 a) (ps_cons q1 (ps_cons q2 (ps_cons q3 (ps_cons (u64P_w (w0_range a)) ps_nil)))) ?_
          exact size0 q1 q2 q3
  · exact h.elim
noncomputable def size : Ctr P := ⟨141, P1, sizeV, size_gives⟩
end Go.Qt
