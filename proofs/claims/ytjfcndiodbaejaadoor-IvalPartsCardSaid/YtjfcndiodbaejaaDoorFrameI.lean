/-
  Intervals as arguments; six arguments.
-/
import Derived.Test.YtjfcndiodbaejaaDoorFrame
import Derived.Test.YtjfcndiodbaejaaDoorIvA
import Derived.ProofKit
import Derived.Carry
set_option maxRecDepth 100000
namespace Go.Fr
open Go Go.RowKit Go.Sx Go.Nm Go.Wd Go.Qt Go.ChangeShapes

theorem i64_cell {P : Program} {w : World} {r : Reach} {base : Nat} {t : TypeId} {v : Value} (ht : P.underlying t = some (.int .i64)) (h : Cell.okWide P w r base t v) : ∃ n : Int, v = .int .i64 n ∧ I64 n := by
  unfold Cell.okWide at h
  rw [ht] at h
  unfold Cell.ok at h
  rw [ht] at h
  cases v <;> simp at h
  obtain ⟨h1, h2⟩ := h
  subst h1
  refine ⟨_, rfl, ?_⟩
  have e0 : IntKind.i64.min = -9223372036854775808 := rfl
  have e1 : IntKind.i64.max = 9223372036854775807 := rfl
  rw [IntKind.has, e0, e1] at h2
  unfold I64
  omega
theorem bool_cell {P : Program} {w : World} {r : Reach} {base : Nat} {t : TypeId} {v : Value} (ht : P.underlying t = some .bool) (h : Cell.okWide P w r base t v) : ∃ b : Bool, v = .bool b := by
  unfold Cell.okWide at h
  rw [ht] at h
  unfold Cell.ok at h
  rw [ht] at h
  cases v <;> simp at h
  exact ⟨_, rfl⟩
theorem ival_fields {P : Program} {w : World} {r : Reach} {base : Nat} {t u b : TypeId} {v : Value} (hc : P.cellTypes P.depth t = some [u, u, b]) (hs : P.cellsOf t = 3) (hu : P.underlying u = some (.int .i64)) (hb : P.underlying b = some .bool)
    (h : ∃ cs, v = .agg cs ∧ cs.size = P.cellsOf t ∧ Row.okWide P w r base t cs) : ∃ a : Iv.Iv, v = Iv.I a ∧ I64 a.lo ∧ I64 a.hi := by
  obtain ⟨cs, rfl, hsz, ts, h1, h2, h3⟩ := h
  rw [hc] at h1
  cases h1
  rw [hs] at hsz
  have cell : ∀ i (hi : i < 3) k', [u, u, b][i % 3]? = some k' → Cell.okWide P w r base k' (cs[i]'(by omega)) := fun i hi k' hk' => by
    obtain ⟨k, hk, ho⟩ := h3 i (cs[i]'(by omega)) (by simp)
    have hk2 : [u, u, b][i % 3]? = some k := hk
    rw [hk'] at hk2
    rw [Option.some.inj hk2]
    exact ho
  obtain ⟨x, hx, x1⟩ := i64_cell hu (cell 0 (by omega) u rfl)
  obtain ⟨y, hy, y1⟩ := i64_cell hu (cell 1 (by omega) u rfl)
  obtain ⟨c, hc⟩ := bool_cell hb (cell 2 (by omega) b rfl)
  refine ⟨⟨x, y, c⟩, ?_, x1, y1⟩
  have e : cs = #[.int .i64 x, .int .i64 y, .bool c] := by
    apply Array.ext
    · simp [hsz]
    · intro i hi hj
      match i, (by simpa using hj : i < 3) with
      | 0, _ => simpa using hx
      | 1, _ => simpa using hy
      | 2, _ => simpa using hc
  rw [e]
theorem ival_arg {P : Program} {w : World} {r : Reach} {base : Nat} {t u b : TypeId} {v : Value} (ht : (match P.underlying t with | some (.struct _) => true | _ => false) = true) (hc : P.cellTypes P.depth t = some [u, u, b]) (hs : P.cellsOf t = 3) (hu : P.underlying u = some (.int .i64)) (hb : P.underlying b = some .bool)
    (h : Value.okWide P w r base t v) : ∃ a : Iv.Iv, v = Iv.I a ∧ I64 a.lo ∧ I64 a.hi := by
  unfold Value.okWide at h
  split at ht
  · rename_i fs hst
    rw [hst] at h
    exact ival_fields hc hs hu hb h
  · cases ht

section
variable {H : Type} {enc : TypeId × Value → H} {P : Program} {w : World} {base : Nat} {spare : Nat → Bool} {held : Bool}
theorem trodAll_six {t0 t1 t2 t3 t4 t5 : TypeId} {args : Array Value} {ds : List (DataW H)} {ps : List MemPlace} (h : DataW.TrodAll enc P w base spare held [t0, t1, t2, t3, t4, t5] args.toList ds ps) :
    ∃ v0 v1 v2 v3 v4 v5 d0 d1 d2 d3 d4 d5 p0 p1 p2 p3 p4 p5, args = #[v0, v1, v2, v3, v4, v5] ∧ ds = [d0, d1, d2, d3, d4, d5] ∧ ps = p0 ++ p1 ++ p2 ++ p3 ++ p4 ++ p5 ∧ DataW.Trod enc P w base spare held t0 v0 d0 p0 ∧ DataW.Trod enc P w base spare held t1 v1 d1 p1 ∧ DataW.Trod enc P w base spare held t2 v2 d2 p2 ∧ DataW.Trod enc P w base spare held t3 v3 d3 p3 ∧ DataW.Trod enc P w base spare held t4 v4 d4 p4 ∧ DataW.Trod enc P w base spare held t5 v5 d5 p5 := by
  obtain ⟨v0, vs, d0, e0, p0, q0, hargs, rfl, rfl, h0, r0⟩ := trodAll_cons h
  obtain ⟨v1, vs1, d1, e1, p1, q1, rfl, rfl, rfl, h1, r1⟩ := trodAll_cons r0
  obtain ⟨v2, vs2, d2, e2, p2, q2, rfl, rfl, rfl, h2, r2⟩ := trodAll_cons r1
  obtain ⟨v3, vs3, d3, e3, p3, q3, rfl, rfl, rfl, h3, r3⟩ := trodAll_cons r2
  obtain ⟨v4, vs4, d4, e4, p4, q4, rfl, rfl, rfl, h4, r4⟩ := trodAll_cons r3
  obtain ⟨v5, vs5, d5, e5, p5, q5, rfl, rfl, rfl, h5, r5⟩ := trodAll_cons r4
  obtain ⟨rfl, rfl, rfl⟩ := trodAll_nil r5
  exact ⟨v0, v1, v2, v3, v4, v5, d0, d1, d2, d3, d4, d5, p0, p1, p2, p3, p4, p5, by cases args; simp_all, rfl, by simp, h0, h1, h2, h3, h4, h5⟩
end
end Go.Fr
