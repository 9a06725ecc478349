/-
  Contracts of package inv: quotients. Printed by inB_gen.py.
-/
import Derived.Test.YthadbpnapbmppaaDoorRtb
import Derived.Test.YthadbpnapbmppaaDoorSta
import Derived.Test.YthadbpnapbmppaaDoorIvb
set_option maxRecDepth 100000
namespace Go.Nv
open Go Go.RowKit Go.Sx Go.Nm Go.Wd Go.Qt Go.Iv Go.Rt Go.Proofs

/-! ### times, sure -/
def timesV : List Value → Value
  | [.int _ x, .int _ y] => W (x * y)
  | _ => undef
def surP : List Value → Prop
  | [x, .int .i64 e] => IsW x ∧ e = 0
  | _ => False
def surV : List Value → Value
  | [x, _] => x
  | _ => undef
noncomputable def J5 : Env P := ⟨⟨wideC ++ quotC, []⟩, [], 10, []⟩
noncomputable def JN : Env P := ⟨⟨[] ++ wideC ++ quotC, [cFine]⟩, [], 10, []⟩

/-! ### The lesser, the greater end -/
def mnW (l r : Int) : Int := bif decide (cmp3 (tI (W l)) (tI (W r)) < 0) then l else r
def mxW (u r : Int) : Int := bif decide (cmp3 (tI (W u)) (tI (W r)) > 0) then u else r
theorem mnW_t {l r : Int} (h : decide (cmp3 (tI (W l)) (tI (W r)) < 0) = true) : mnW l r = l := by unfold mnW; rw [h]; rfl
theorem mnW_f {l r : Int} (h : decide (cmp3 (tI (W l)) (tI (W r)) < 0) = false) : mnW l r = r := by unfold mnW; rw [h]; rfl
theorem mxW_t {l r : Int} (h : decide (cmp3 (tI (W l)) (tI (W r)) > 0) = true) : mxW l r = l := by unfold mxW; rw [h]; rfl
theorem mxW_f {l r : Int} (h : decide (cmp3 (tI (W l)) (tI (W r)) > 0) = false) : mxW l r = r := by unfold mxW; rw [h]; rfl
theorem mnW_mn {l r : Int} (hl : InR l) (hr : InR r) : mnW l r = mn r l ∧ InR (mnW l r) := by
  unfold mnW mn
  rw [tI_in hl, tI_in hr]
  by_cases h : l < r
  · rw [decide_eq_true (by unfold cmp3; omega : cmp3 l r < 0), if_pos h]; exact ⟨rfl, hl⟩
  · rw [decide_eq_false (by unfold cmp3; omega : ¬ cmp3 l r < 0), if_neg h]; exact ⟨rfl, hr⟩
theorem mxW_mx {l r : Int} (hl : InR l) (hr : InR r) : mxW l r = mx r l ∧ InR (mxW l r) := by
  unfold mxW mx
  rw [tI_in hl, tI_in hr]
  by_cases h : l > r
  · rw [decide_eq_true (by unfold cmp3; omega : cmp3 l r > 0), if_pos h]; exact ⟨rfl, hl⟩
  · rw [decide_eq_false (by unfold cmp3; omega : ¬ cmp3 l r > 0), if_neg h]; exact ⟨rfl, hr⟩
noncomputable def J2 : Env P := V0
structure Corn (x y : Int) : Prop where
  hx : I64 x
  hy : I64 y
  f : qv fq (tI (W (x * 1073741824))) (tI (W y)) = qf x y
  c : qv cq (tI (W (x * 1073741824))) (tI (W y)) = qc x y
  e : qe (tI (W (x * 1073741824))) (tI (W y)) = 0
  fi : InR (qf x y)
  ci : InR (qc x y)
theorem corn {x y : Int} (hx : I64 x) (hy : I64 y) (h : y ≠ 0) : Corn x y := by
  have s1 : Sm (x * 1073741824) := smmul hx i64one
  have s2 := sm64 hy
  have e1 : tI (W (x * 1073741824)) = x * 1073741824 := tI_in (inR_of s1)
  have e2 : tI (W y) = y := tI_in (inR_of s2)
  refine ⟨hx, hy, ?_, ?_, ?_, (fl_facts s1 s2 h).2.2.2.1, cq_in s1 s2 h⟩
  · rw [e1, e2, qv_ok fq s1 s2 h]; rfl
  · rw [e1, e2, qv_ok cq s1 s2 h]; rfl
  · rw [e1, e2, qe_ok s1 s2 h]
theorem ends_eq {a b : Iv} (k1 : Corn a.lo b.lo) (k2 : Corn a.lo b.hi) (k3 : Corn a.hi b.lo) (k4 : Corn a.hi b.hi) :
    tI (W (mnW (qf a.hi b.hi) (mnW (qf a.hi b.lo) (mnW (qf a.lo b.hi) (qf a.lo b.lo))))) = loQ a b ∧ tI (W (mxW (qc a.hi b.hi) (mxW (qc a.hi b.lo) (mxW (qc a.lo b.hi) (qc a.lo b.lo))))) = hiQ a b := by
  have a1 := mnW_mn k2.fi k1.fi
  have a2 := mnW_mn k3.fi a1.2
  have a3 := mnW_mn k4.fi a2.2
  have b1 := mxW_mx k2.ci k1.ci
  have b2 := mxW_mx k3.ci b1.2
  have b3 := mxW_mx k4.ci b2.2
  rw [tI_in a3.2, tI_in b3.2, a3.1, a2.1, a1.1, b3.1, b2.1, b1.1]
  exact ⟨rfl, rfl⟩
theorem quot_sign {a b : Iv} (hf : fineL [a, b] = true) (hs : b.lo > 0 ∨ b.hi < 0) : quotI a b = told ⟨loQ a b, hiQ a b, false⟩ := by
  unfold quotI
  have : (decide (b.lo > 0) || decide (b.hi < 0)) = true := by simp only [Bool.or_eq_true, decide_eq_true_eq]; exact hs
  rw [hf, this]
  rfl
theorem i64_of_fine {x y : Int} (h : fine ⟨x, y, false⟩ = true) : i64B x = true ∧ i64B y = true := by
  have := fine_iff.1 h
  unfold i64B
  simp only [Bool.and_eq_true, decide_eq_true_eq]
  simp only at this
  omega
theorem told_not {x y : Int} (h : i64B x = false ∨ i64B y = false) : told ⟨x, y, false⟩ = bd := by
  refine told_no ?_
  rw [← Bool.not_eq_true]
  intro hf
  have := i64_of_fine hf
  rcases h with h | h
  · rw [this.1] at h; cases h
  · rw [this.2] at h; cases h
end Go.Nv

/-
  Contracts of package inv: inverses, squares, roots, signs, cubes. Printed by inC.py.
-/
namespace Go.Nv
open Go Go.RowKit Go.Sx Go.Nm Go.Wd Go.Qt Go.Iv Go.Rt Go.Proofs

noncomputable def JR : Env P := ⟨⟨[] ++ rootC ++ wideC ++ quotC, [cFine]⟩, [], 10, []⟩
noncomputable def JRn : Env P := ⟨⟨[] ++ rootC ++ wideC ++ quotC, [cFine]⟩, [], 10, []⟩
def i6 (x : Int) : Int := if i64B x then x else 0
theorem i6_ok {x : Int} (h : i64B x = true) : i6 x = x := if_pos h
def leastW (a : Iv) : Int := (if 0 > (if IntKind.i64.wrap (0 - a.hi) > a.lo then IntKind.i64.wrap (0 - a.hi) else a.lo) then 0 else (if IntKind.i64.wrap (0 - a.hi) > a.lo then IntKind.i64.wrap (0 - a.hi) else a.lo))
def mostW (a : Iv) : Int := (if IntKind.i64.wrap (0 - a.lo) > a.hi then IntKind.i64.wrap (0 - a.lo) else a.hi)
def rtW (x : Int) : Int := if 0 ≤ tI (W (x * 1073741824)) then rt (tI (W (x * 1073741824))) else 0
def rcW (x : Int) : Int := if 0 ≤ tI (W (x * 1073741824)) then rc (tI (W (x * 1073741824))) else 0
structure RtF (a : Iv) : Prop where
  i1 : I64 a.lo
  i2 : I64 a.hi
  e0 : ∀ {x : Int}, I64 x → tI (W (x * 1073741824)) = x * 1073741824
  n : ∀ {x : Int}, I64 x → x < 0 → rootE (tI (W (x * 1073741824))) = 2
  z : ∀ {x : Int}, I64 x → 0 ≤ x → rootE (tI (W (x * 1073741824))) = 0
theorem rtF {a : Iv} (hf : fineL [a] = true) : RtF a := by
  rw [fine1] at hf
  obtain ⟨a1, a2⟩ := fine64 hf
  have e0 : ∀ {x : Int}, I64 x → tI (W (x * 1073741824)) = x * 1073741824 := fun h => tI_in (inR_of (smmul h i64one))
  refine ⟨a1, a2, e0, fun h hx => ?_, fun h hx => ?_⟩
  · rw [e0 h]; unfold rootE; rw [if_neg (by omega)]
  · rw [e0 h]; unfold rootE; rw [if_pos (by omega)]
theorem rtW_ok {a : Iv} (hf : fineL [a] = true) (h0 : 0 ≤ a.lo) : tI (W (rtW a.lo)) = rt (a.lo * 1073741824) ∧ tI (W (rcW a.hi)) = rc (a.hi * 1073741824) := by
  have F := rtF hf
  rw [fine1] at hf
  have ra := fine_iff.1 hf
  have j1 := ones_in h0 (by omega)
  have j2 := ones_in (x := a.hi) (by omega) (by omega)
  have r1 := rt_range j1.1 j1.2
  have r2 := rc_top (x := a.hi) (by omega) (by omega)
  have r3 := (rc_is j2.1 j2.2).1
  have k128 : (2 : Int) ^ 128 = 340282366920938463463374607431768211456 := by decide
  rw [k128] at r1
  unfold rtW rcW
  rw [F.e0 F.i1, F.e0 F.i2, if_pos j1.1, if_pos j2.1]
  exact ⟨tI_in (by unfold InR; simp only [HH]; omega), tI_in (by unfold InR; simp only [HH]; omega)⟩
theorem sgF_run (a : Iv) : runF P JN 1 18 [I a] (.lit :: (.b true :: [])) =
  some (.tuple #[.int .i64 0, .bool false],
    [fineP [ivs [a]],
     (!(fineL [a])) = true]) := by kernel_rfl
theorem sgF_leaf (a : Iv) (hf : fineL [a] = false) : Gives P 18 #[I a] (.tuple #[.int .i64 (signN a), .bool (signB a)]) := by
  refine gives_of_run mo (sgF_run a) (ps_cons (ivs_ok (by simp)) (ps_cons (neg_t hf) ps_nil)) ?_
  unfold signN signB
  rw [hf]
  rfl
theorem sg1_run (a : Iv) : runF P JN 1 18 [I a] (.lit :: (.b false :: (.b true :: []))) =
  some (.tuple #[.int .i64 1, .bool true],
    [fineP [ivs [a]],
     (!(fineL [a])) = false,
     (decide (a.lo > 0)) = true]) := by kernel_rfl
theorem sg1_leaf (a : Iv) (hf : fineL [a] = true) (q1 : decide (a.lo > 0) = true) : Gives P 18 #[I a] (.tuple #[.int .i64 (signN a), .bool (signB a)]) := by
  refine gives_of_run mo (sg1_run a) (ps_cons (ivs_ok (by simp)) (ps_cons (neg_f hf) (ps_cons q1 ps_nil))) ?_
  unfold signN signB
  rw [hf, q1, if_pos (of_decide_eq_true q1)]
  rfl
theorem sg2_run (a : Iv) : runF P JN 1 18 [I a] (.lit :: (.b false :: (.b false :: (.b true :: [])))) =
  some (.tuple #[.int .i64 (-1), .bool true],
    [fineP [ivs [a]],
     (!(fineL [a])) = false,
     (decide (a.lo > 0)) = false,
     (decide (a.hi < 0)) = true]) := by kernel_rfl
theorem sg2_leaf (a : Iv) (hf : fineL [a] = true) (q1 : decide (a.lo > 0) = false) (q2 : decide (a.hi < 0) = true) : Gives P 18 #[I a] (.tuple #[.int .i64 (signN a), .bool (signB a)]) := by
  refine gives_of_run mo (sg2_run a) (ps_cons (ivs_ok (by simp)) (ps_cons (neg_f hf) (ps_cons q1 (ps_cons q2 ps_nil)))) ?_
  unfold signN signB
  rw [hf, q1, q2, if_neg (of_decide_eq_false q1), if_pos (of_decide_eq_true q2)]
  rfl
theorem sg3_run (a : Iv) : runF P JN 1 18 [I a] (.lit :: (.b false :: (.b false :: (.b false :: [])))) =
  some (.tuple #[.int .i64 0, .bool (a.hi == a.lo)],
    [fineP [ivs [a]],
     (!(fineL [a])) = false,
     (decide (a.lo > 0)) = false,
     (decide (a.hi < 0)) = false]) := by kernel_rfl
theorem sg3_leaf (a : Iv) (hf : fineL [a] = true) (q1 : decide (a.lo > 0) = false) (q2 : decide (a.hi < 0) = false) : Gives P 18 #[I a] (.tuple #[.int .i64 (signN a), .bool (signB a)]) := by
  refine gives_of_run mo (sg3_run a) (ps_cons (ivs_ok (by simp)) (ps_cons (neg_f hf) (ps_cons q1 (ps_cons q2 ps_nil)))) ?_
  unfold signN signB
  rw [hf, q1, q2, if_neg (of_decide_eq_false q1), if_neg (of_decide_eq_false q2)]
  rfl
theorem sign_gives (args : List Value) (h : iP1 args) : Gives P 18 args.toArray ((one1 fun a => .tuple #[.int .i64 (signN a), .bool (signB a)]) args) := by
  unfold iP1 at h
  split at h
  · obtain ⟨a, rfl⟩ := h
    show Gives P _ #[I a] (.tuple #[.int .i64 (signN a), .bool (signB a)])
    cases hf : fineL [a] with
    | false => exact sgF_leaf a hf
    | true =>
      cases q1 : decide (a.lo > 0) with
      | true => exact sg1_leaf a hf q1
      | false =>
        cases q2 : decide (a.hi < 0) with
        | true => exact sg2_leaf a hf q1 q2
        | false => exact sg3_leaf a hf q1 q2
  · exact h.elim
noncomputable def cSign : Ctr P := ⟨18, iP1, one1 fun a => .tuple #[.int .i64 (signN a), .bool (signB a)], sign_gives⟩
noncomputable def JI : Env P := ⟨⟨[] ++ ivalC, ivalD⟩, [], 10, []⟩
noncomputable def JC : Env P := ⟨⟨[cSign] ++ ivalC, ivalD⟩, [], 10, []⟩
theorem cube_cond (a : Iv) : (fineL [a] && decide (a.lo > 0)) = (signB a && !(decide (signN a ≤ 0))) := by
  unfold signB signN
  cases hf : fineL [a] with
  | false => rfl
  | true =>
    rw [fine1] at hf
    have ra := fine_iff.1 hf
    rw [Bool.true_and, Bool.true_and, cond_true]
    by_cases h : a.lo > 0
    · rw [if_pos h, decide_eq_true h]; rfl
    · rw [if_neg h, decide_eq_false h]
      by_cases h2 : a.hi < 0
      · rw [if_pos h2]; simp
      · rw [if_neg h2]; simp
noncomputable def invC : List (Ctr P) := [cSign]
end Go.Nv
