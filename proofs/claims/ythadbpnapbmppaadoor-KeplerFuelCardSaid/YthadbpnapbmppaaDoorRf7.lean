/-
  Contracts of gyreref07.{Middle, Term, point, wave, Sin, Cos} where they are not bad. Printed by stH.py, rf7.py.
-/
import Derived.Test.YthadbpnapbmppaaDoorWvD
import Derived.Test.YthadbpnapbmppaaDoorRf5
set_option maxRecDepth 100000
namespace Go.R7
open Go Go.RowKit Go.Sx Go.Nm Go.Wd Go.Qt Go.Iv Go.An Go.Wv Go.Proofs

noncomputable def H0 : Env P := ⟨⟨[], [rFine]⟩, [], 10, []⟩
/-! ### point -/
def sv (c : Bool) (n : Int) : Nat → Iv
  | 0 => tm c n 0
  | k + 1 => addI (sv c n k) (tm c n (k + 1))
def z4 (t : Iv) : Int := mx (mx (mx t.lo (IntKind.i64.wrap (0 - t.lo))) t.hi) (IntKind.i64.wrap (0 - t.hi))
def poP : List Value → Prop
  | [.int .i64 n, .bool _] => -4294967296 ≤ n ∧ n ≤ 4294967296
  | _ => False
def poV : List Value → Value
  | [.int _ n, .bool c] => I (onI (ptI c n))
  | _ => undef
theorem zero_add {t : Iv} (h : fine t = true) : addI (pointI 0) t = t := by
  have hp := hd_point (n := 0) (by decide) (by decide)
  have r := fine_iff.1 h
  have e := (add_ok (a := ⟨0, 0, false⟩) (b := t) (by decide) h (by simp only; omega) (by simp only; omega)).1
  rw [hp.1, e]
  cases t with
  | mk l u b =>
    simp only at r
    rw [r.1]
    simp only [Int.zero_add]
theorem su_sv (c : Bool) {n : Int} (h1 : -4294967296 ≤ n) (h2 : n ≤ 4294967296) : ∀ k, su c n (k + 1) = sv c n k
  | 0 => zero_add ((tm_facts c h1 h2 0 (by omega)).1.f)
  | k + 1 => by
    show addI (su c n (k + 1)) (tm c n (k + 1)) = addI (sv c n k) (tm c n (k + 1))
    rw [su_sv c h1 h2 k]
theorem z4_facts {u : Iv} (h : fine u = true) : z4 u = Wv.size u ∧ IntKind.i64.wrap (0 - z4 u) = -Wv.size u ∧ nP2 [.int .i64 (IntKind.i64.wrap (0 - z4 u)), .int .i64 (z4 u)] := by
  have rt := fine_iff.1 h
  have e : z4 u = Wv.size u := by
    have w1 : IntKind.i64.wrap (0 - u.lo) = -u.lo := by rw [Int.zero_sub, wr (by omega) (by omega)]
    have w2 : IntKind.i64.wrap (0 - u.hi) = -u.hi := by rw [Int.zero_sub, wr (by omega) (by omega)]
    unfold z4 Wv.size
    rw [w1, w2]
    unfold mx
    split <;> split <;> split <;> split <;> omega
  have s1 : Wv.size u ≤ 1152921504606846976 := mx_le.2 ⟨by omega, by omega⟩
  have s0 : u.hi ≤ Wv.size u ∧ -u.lo ≤ Wv.size u := mx_le.1 (Int.le_refl _)
  have w : IntKind.i64.wrap (0 - z4 u) = -Wv.size u := by rw [e, Int.zero_sub, wr (by omega) (by omega)]
  exact ⟨e, w, by rw [w, e]; unfold nP2 I64; omega⟩
structure PoF (c : Bool) (n : Int) : Prop where
  e : z4 (tm c n 13) = Wv.size (tm c n 13)
  w : IntKind.i64.wrap (0 - z4 (tm c n 13)) = -Wv.size (tm c n 13)
  p : nP2 [.int .i64 (IntKind.i64.wrap (0 - z4 (tm c n 13))), .int .i64 (z4 (tm c n 13))]
theorem poF (c : Bool) {n : Int} (h1 : -4294967296 ≤ n) (h2 : n ≤ 4294967296) : PoF c n := by
  have f := z4_facts (tm_facts c h1 h2 13 (by omega)).1.f
  exact ⟨f.1, f.2.1, f.2.2⟩
def te7P : List Value → Prop
  | [.int .i64 n, .int .i64 k, .bool _] => -4294967296 ≤ n ∧ n ≤ 4294967296 ∧ 0 ≤ k ∧ k ≤ 13
  | _ => False
def te7V : List Value → Value
  | [.int _ n, .int _ k, .bool c] => I (tm c n k.toNat)
  | _ => undef
noncomputable def HT : Env P := ⟨⟨R5.rf5C, [rFine]⟩, [], 20, []⟩
noncomputable def H1 : Env P := ⟨⟨[] ++ R5.rf5C, [rFine]⟩, [], 30, []⟩
/-! ### wave -/
def wa7P : List Value → Prop
  | [x, .bool _] => ∃ a, x = I a ∧ holdsI (makeI (-4294967296) 4294967296) a = true
  | _ => False
def wa7V : List Value → Value
  | [x, .bool c] => I (waveI c (rd x))
  | _ => undef
noncomputable def H2 : Env P := ⟨⟨[] ++ R5.rf5C, [rFine]⟩, [], 20, []⟩
theorem re7 {a : Iv} (h : holdsI (makeI (-4294967296) 4294967296) a = true) : mM a = midm a ∧ -4294967296 ≤ mM a ∧ mM a ≤ 4294967296 ∧ IntKind.i64.wrap (0 - rM a) = -midr a ∧ rM a = midr a ∧ nP2 [.int .i64 (IntKind.i64.wrap (0 - rM a)), .int .i64 (rM a)] := by
  have F := wvF true h
  obtain ⟨fa, b1, b2⟩ := holds_far h
  obtain ⟨m1, m2, m3, m4, m5, m6⟩ := mid_spec fa
  have w : IntKind.i64.wrap (0 - rM a) = -midr a := by rw [F.r, Int.zero_sub, wr (by omega) (by omega)]
  exact ⟨F.m, by rw [F.m]; omega, by rw [F.m]; omega, w, F.r, by rw [w, F.r]; unfold nP2 I64; omega⟩
noncomputable def H3 : Env P := ⟨⟨[], []⟩, [], 10, []⟩
def sc7P : List Value → Prop
  | [x] => ∃ a, x = I a ∧ holdsI (makeI (-4294967296) 4294967296) a = true
  | _ => False
end Go.R7
