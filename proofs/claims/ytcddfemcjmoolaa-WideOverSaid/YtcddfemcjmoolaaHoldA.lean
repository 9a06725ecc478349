/-
  Proved: WideRing, WideOver, WideOrder, WideSquares of wide numbers (the law's function returns true, and the arguments read as before), for every input. Conditions: none but the row's own.
-/
import Derived.Test.YtcddfemcjmoolaaLawB
import Derived.Test.YtcddfemcjmoolaaFrame
import Derived.Test.YtcddfemcjmoolaaRows
import Derived.ProofKit
namespace Go.Proofs.Ytcddfemcjmoolaa
open Go Go.ChangeShapes Go.WideShapes Go.ChangeAt Go.RowKit Go.Sx Go.Nm

theorem own : ownKnob Try.prog.godebug = none := by kernel_rfl
theorem laidOut : laidOutB Try.prog = true := by kernel_rfl

set_option maxRecDepth 100000 in
theorem wideRing_lifted (os : Os) (started : os.Started) (H : Type) (enc : TypeId × Value → H) :
    ReturnsInHanded {} Try.checked os 3 .any (Rows.wideRingSpec.pre6 enc Try.prog Try.f3 Rows.wideRingRow.domain false) (Rows.wideRingSpec.post enc Try.prog Try.f3 false true false false) := by
  refine returnsInHanded_of_change (C := Try.checked) own started (by kernel_rfl) (rfl : Try.prog.funcs[3]? = some Try.f3)
    (ChangeSpec.witness6 (enc := enc) (C := Try.checked) false ⟨#[], #[W 0, W 0, W 0], []⟩ 8 (by kernel_rfl) (by kernel_rfl) (by kernel_rfl) (by kernel_rfl)) ?_
  intro W base args ds gs before hval hW hcnd _
  obtain ⟨p, q, hA, hV, hpq, hfz, hnd⟩ := id hW
  have hA0 : DataW.TrodAll enc Try.prog W 0 (fun _ => true) true [24, 24, 24] args.toList ds p := hA
  obtain ⟨v0, v1, v2, d0, d1, d2, p0, p1, p2, rfl, rfl, hpp, h0, h1, h2⟩ := trodAll_three hA0
  obtain ⟨rfl, _⟩ := trodVars_none hV
  obtain ⟨x0, rfl, r0⟩ := Fr.wide_arg (t := 24) (e := 22) (u := 22) (by kernel_rfl) (by kernel_rfl) (by kernel_rfl) (by kernel_rfl) (hval 0 24 v0 rfl rfl)
  obtain ⟨x1, rfl, r1⟩ := Fr.wide_arg (t := 24) (e := 22) (u := 22) (by kernel_rfl) (by kernel_rfl) (by kernel_rfl) (by kernel_rfl) (hval 1 24 v1 rfl rfl)
  obtain ⟨x2, rfl, r2⟩ := Fr.wide_arg (t := 24) (e := 22) (u := 22) (by kernel_rfl) (by kernel_rfl) (by kernel_rfl) (by kernel_rfl) (hval 2 24 v2 rfl rfl)
  refine (Wd.ring_calls x0 x1 x2 r0 W).mono fun e W' ⟨he, hb⟩ => ?_
  exact ⟨_, he, Fr.law_post (tb := 4) laidOut (by kernel_rfl) rfl (by kernel_rfl) (by kernel_rfl) hW hb rfl rfl rfl⟩

theorem wideRing_holds : Rows.WideRingSaid :=
  OpenClaim.holds_of_wide 3 Try.f3 rfl rfl rfl rfl rfl rfl rfl ⟨rfl, rfl, rfl, rfl, rfl⟩ rfl rfl rfl rfl rfl (by kernel_rfl) rfl (by kernel_rfl)
    (of_decide_eq_true (by kernel_rfl)) (by unfold Func.isWrapper; first | (rw [if_pos (by decide +kernel)]; kernel_rfl) | (rw [if_neg (by decide +kernel)]; exact ⟨rfl, rfl⟩))
    (fun os started H enc _ => wideRing_lifted os started H enc)
set_option maxRecDepth 100000 in
theorem wideOver_lifted (os : Os) (started : os.Started) (H : Type) (enc : TypeId × Value → H) :
    ReturnsInHanded {} Try.checked os 4 .any (Rows.wideOverSpec.pre6 enc Try.prog Try.f4 Rows.wideOverRow.domain false) (Rows.wideOverSpec.post enc Try.prog Try.f4 false true false false) := by
  refine returnsInHanded_of_change (C := Try.checked) own started (by kernel_rfl) (rfl : Try.prog.funcs[4]? = some Try.f4)
    (ChangeSpec.witness6 (enc := enc) (C := Try.checked) false ⟨#[], #[.int .i64 0, .int .i64 0, W 0, W 0], []⟩ 8 (by kernel_rfl) (by kernel_rfl) (by kernel_rfl) (by kernel_rfl)) ?_
  intro W base args ds gs before hval hW hcnd _
  obtain ⟨p, q, hA, hV, hpq, hfz, hnd⟩ := id hW
  have hA0 : DataW.TrodAll enc Try.prog W 0 (fun _ => true) true [3, 3, 24, 24] args.toList ds p := hA
  obtain ⟨v0, v1, v2, v3, d0, d1, d2, d3, p0, p1, p2, p3, rfl, rfl, hpp, h0, h1, h2, h3⟩ := trodAll_four hA0
  obtain ⟨rfl, _⟩ := trodVars_none hV
  obtain ⟨x0, rfl, r0⟩ := Fr.i64_arg (t := 3) (by kernel_rfl) (hval 0 3 v0 rfl rfl)
  obtain ⟨x1, rfl, r1⟩ := Fr.i64_arg (t := 3) (by kernel_rfl) (hval 1 3 v1 rfl rfl)
  obtain ⟨x2, rfl, r2⟩ := Fr.wide_arg (t := 24) (e := 22) (u := 22) (by kernel_rfl) (by kernel_rfl) (by kernel_rfl) (by kernel_rfl) (hval 2 24 v2 rfl rfl)
  obtain ⟨x3, rfl, r3⟩ := Fr.wide_arg (t := 24) (e := 22) (u := 22) (by kernel_rfl) (by kernel_rfl) (by kernel_rfl) (by kernel_rfl) (hval 3 24 v3 rfl rfl)
  refine (Wd.over_calls x0 x1 x2 x3 r0 r1 r2 r3 W).mono fun e W' ⟨he, hb⟩ => ?_
  exact ⟨_, he, Fr.law_post (tb := 4) laidOut (by kernel_rfl) rfl (by kernel_rfl) (by kernel_rfl) hW hb rfl rfl rfl⟩

theorem wideOver_holds : Rows.WideOverSaid :=
  OpenClaim.holds_of_wide 4 Try.f4 rfl rfl rfl rfl rfl rfl rfl ⟨rfl, rfl, rfl, rfl, rfl⟩ rfl rfl rfl rfl rfl (by kernel_rfl) rfl (by kernel_rfl)
    (of_decide_eq_true (by kernel_rfl)) (by unfold Func.isWrapper; first | (rw [if_pos (by decide +kernel)]; kernel_rfl) | (rw [if_neg (by decide +kernel)]; exact ⟨rfl, rfl⟩))
    (fun os started H enc _ => wideOver_lifted os started H enc)
set_option maxRecDepth 100000 in
theorem wideOrder_lifted (os : Os) (started : os.Started) (H : Type) (enc : TypeId × Value → H) :
    ReturnsInHanded {} Try.checked os 5 .any (Rows.wideOrderSpec.pre6 enc Try.prog Try.f5 Rows.wideOrderRow.domain false) (Rows.wideOrderSpec.post enc Try.prog Try.f5 false true false false) := by
  refine returnsInHanded_of_change (C := Try.checked) own started (by kernel_rfl) (rfl : Try.prog.funcs[5]? = some Try.f5)
    (ChangeSpec.witness6 (enc := enc) (C := Try.checked) false ⟨#[], #[W 0, W 0, W 0], []⟩ 8 (by kernel_rfl) (by kernel_rfl) (by kernel_rfl) (by kernel_rfl)) ?_
  intro W base args ds gs before hval hW hcnd _
  obtain ⟨p, q, hA, hV, hpq, hfz, hnd⟩ := id hW
  have hA0 : DataW.TrodAll enc Try.prog W 0 (fun _ => true) true [24, 24, 24] args.toList ds p := hA
  obtain ⟨v0, v1, v2, d0, d1, d2, p0, p1, p2, rfl, rfl, hpp, h0, h1, h2⟩ := trodAll_three hA0
  obtain ⟨rfl, _⟩ := trodVars_none hV
  obtain ⟨x0, rfl, r0⟩ := Fr.wide_arg (t := 24) (e := 22) (u := 22) (by kernel_rfl) (by kernel_rfl) (by kernel_rfl) (by kernel_rfl) (hval 0 24 v0 rfl rfl)
  obtain ⟨x1, rfl, r1⟩ := Fr.wide_arg (t := 24) (e := 22) (u := 22) (by kernel_rfl) (by kernel_rfl) (by kernel_rfl) (by kernel_rfl) (hval 1 24 v1 rfl rfl)
  obtain ⟨x2, rfl, r2⟩ := Fr.wide_arg (t := 24) (e := 22) (u := 22) (by kernel_rfl) (by kernel_rfl) (by kernel_rfl) (by kernel_rfl) (hval 2 24 v2 rfl rfl)
  refine (Wd.order_calls x0 x1 x2 r0 r1 W).mono fun e W' ⟨he, hb⟩ => ?_
  exact ⟨_, he, Fr.law_post (tb := 4) laidOut (by kernel_rfl) rfl (by kernel_rfl) (by kernel_rfl) hW hb rfl rfl rfl⟩

theorem wideOrder_holds : Rows.WideOrderSaid :=
  OpenClaim.holds_of_wide 5 Try.f5 rfl rfl rfl rfl rfl rfl rfl ⟨rfl, rfl, rfl, rfl, rfl⟩ rfl rfl rfl rfl rfl (by kernel_rfl) rfl (by kernel_rfl)
    (of_decide_eq_true (by kernel_rfl)) (by unfold Func.isWrapper; first | (rw [if_pos (by decide +kernel)]; kernel_rfl) | (rw [if_neg (by decide +kernel)]; exact ⟨rfl, rfl⟩))
    (fun os started H enc _ => wideOrder_lifted os started H enc)
set_option maxRecDepth 100000 in
theorem wideSquares_lifted (os : Os) (started : os.Started) (H : Type) (enc : TypeId × Value → H) :
    ReturnsInHanded {} Try.checked os 6 .any (Rows.wideSquaresSpec.pre6 enc Try.prog Try.f6 Rows.wideSquaresRow.domain false) (Rows.wideSquaresSpec.post enc Try.prog Try.f6 false true false false) := by
  refine returnsInHanded_of_change (C := Try.checked) own started (by kernel_rfl) (rfl : Try.prog.funcs[6]? = some Try.f6)
    (ChangeSpec.witness6 (enc := enc) (C := Try.checked) false ⟨#[], #[W 0, W 0], []⟩ 8 (by kernel_rfl) (by kernel_rfl) (by kernel_rfl) (by kernel_rfl)) ?_
  intro W base args ds gs before hval hW hcnd _
  obtain ⟨p, q, hA, hV, hpq, hfz, hnd⟩ := id hW
  have hA0 : DataW.TrodAll enc Try.prog W 0 (fun _ => true) true [24, 24] args.toList ds p := hA
  obtain ⟨v0, v1, d0, d1, p0, p1, rfl, rfl, hpp, h0, h1⟩ := trodAll_two hA0
  obtain ⟨rfl, _⟩ := trodVars_none hV
  obtain ⟨x0, rfl, r0⟩ := Fr.wide_arg (t := 24) (e := 22) (u := 22) (by kernel_rfl) (by kernel_rfl) (by kernel_rfl) (by kernel_rfl) (hval 0 24 v0 rfl rfl)
  obtain ⟨x1, rfl, r1⟩ := Fr.wide_arg (t := 24) (e := 22) (u := 22) (by kernel_rfl) (by kernel_rfl) (by kernel_rfl) (by kernel_rfl) (hval 1 24 v1 rfl rfl)
  refine (Wd.squares_calls x0 x1 r0 r1 W).mono fun e W' ⟨he, hb⟩ => ?_
  exact ⟨_, he, Fr.law_post (tb := 4) laidOut (by kernel_rfl) rfl (by kernel_rfl) (by kernel_rfl) hW hb rfl rfl rfl⟩

theorem wideSquares_holds : Rows.WideSquaresSaid :=
  OpenClaim.holds_of_wide 6 Try.f6 rfl rfl rfl rfl rfl rfl rfl ⟨rfl, rfl, rfl, rfl, rfl⟩ rfl rfl rfl rfl rfl (by kernel_rfl) rfl (by kernel_rfl)
    (of_decide_eq_true (by kernel_rfl)) (by unfold Func.isWrapper; first | (rw [if_pos (by decide +kernel)]; kernel_rfl) | (rw [if_neg (by decide +kernel)]; exact ⟨rfl, rfl⟩))
    (fun os started H enc _ => wideSquares_lifted os started H enc)
end Go.Proofs.Ytcddfemcjmoolaa
