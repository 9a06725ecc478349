/-
  Proved: WideTells (the law's function returns true, and the arguments read as before), for every input. Conditions: none but the row's own.
-/
import Derived.Test.YtpofhfhejnapkaaTwB
import Derived.Test.YtpofhfhejnapkaaFrameS
import Derived.Test.YtpofhfhejnapkaaFrm
import Derived.Test.YtpofhfhejnapkaaRows
import Derived.ProofKit
import Derived.OpenShut
set_option maxRecDepth 100000
namespace Go.Proofs.Ytpofhfhejnapkaa
open Go Go.ChangeShapes Go.WideShapes Go.ChangeAt Go.RowKit Go.Sx Go.Nm
theorem own : ownKnob Try.prog.godebug = none := by kernel_rfl
theorem laidOut : laidOutB Try.prog = true := by kernel_rfl
set_option maxRecDepth 100000 in
theorem wideTells_lifted (os : Os) (started : os.Started) (H : Type) (enc : TypeId × Value → H) :
    ReturnsInHanded {} Try.checked os 3 .any (Rows.wideTellsSpec.pre6 enc Try.prog Try.f3 Rows.wideTellsRow.domain false) (Rows.wideTellsSpec.post enc Try.prog Try.f3 false true false false) := by
  refine returnsInHanded_of_change (C := Try.checked) own started (by kernel_rfl) (rfl : Try.prog.funcs[3]? = some Try.f3)
    (ChangeSpec.witness6 (enc := enc) (C := Try.checked) false ⟨#[], #[W 0, W 0, .int .i64 0, .slice none 0 0], []⟩ 8 (by kernel_rfl) (by kernel_rfl) (by kernel_rfl) (by kernel_rfl)) ?_
  intro W base args ds gs before hval0 hW hcnd _
  have hL : LaidG W := fun x hx => by simp [lz] at hx
  have hval : ∀ (j : Nat) t v, Try.f3.params[j]? = some t → args[j]? = some v → Value.okWide Try.prog W .any base t v := hval0
  obtain ⟨p, q, hA, hV, hpq, hfz, hnd⟩ := id hW
  have hA0 : DataW.TrodAll enc Try.prog W 0 (fun _ => true) true [24, 24, 3, 25] args.toList ds p := hA
  obtain ⟨v0, v1, v2, v3, d0, d1, d2, d3, p0, p1, p2, p3, rfl, rfl, hpp, h0, h1, h2, h3⟩ := trodAll_four hA0
  obtain ⟨rfl, _⟩ := trodVars_none hV
  have post : ∀ (e : Ending) (W' : World), (e = .returned (.bool true) ∧ Below W.heap.size W W') → ∃ v, e = .returned v ∧ Rows.wideTellsSpec.post enc Try.prog Try.f3 false true false false W #[v0, v1, v2, v3] v W' := fun e W' ⟨he, hb⟩ =>
    ⟨_, he, Fr.law_post (tb := 4) laidOut (by kernel_rfl) rfl (by kernel_rfl) (by kernel_rfl) hW hb rfl rfl rfl⟩
  obtain ⟨x0, rfl, r0⟩ := Fr.wide_arg (t := 24) (e := 22) (u := 22) (by kernel_rfl) (by kernel_rfl) (by kernel_rfl) (by kernel_rfl) (hval 0 24 v0 rfl rfl)
  obtain ⟨x1, rfl, r1⟩ := Fr.wide_arg (t := 24) (e := 22) (u := 22) (by kernel_rfl) (by kernel_rfl) (by kernel_rfl) (by kernel_rfl) (hval 1 24 v1 rfl rfl)
  obtain ⟨x2, rfl, r2⟩ := Fr.i64_arg (t := 3) (by kernel_rfl) (hval 2 3 v2 rfl rfl)
  rcases Fr.slice_arg (t := 25) (e := 24) (sz := 4) (by kernel_rfl) (by kernel_rfl) (hval 3 25 v3 rfl rfl) h3 (fun u => ∃ n, u = Nm.W n ∧ Nm.InR n) (Fr.wide_el (u := 22) (by kernel_rfl) (by kernel_rfl) (by kernel_rfl)) with hn3 | ⟨n3, el3, hm3, hs3, hg3⟩
  · subst hn3
    exact (Fr.calls_of_givesD (args := [Nm.W x0, Nm.W x1, .int .i64 x2, .slice none 0 0]) (by kernel_rfl) (Tw.WideTells_nil x0 x1 x2 r2) W hL ⟨rfl, rfl, rfl, rfl, trivial⟩).mono post
  ·
    exact (Fr.calls_of_givesD (args := [Nm.W x0, Nm.W x1, .int .i64 x2, v3]) (by kernel_rfl) (Tw.WideTells_row x0 x1 x2 n3 (fun j => Nm.tI (el3 j)) r2) W hL ⟨rfl, rfl, rfl, Fr.wides_show hs3 hg3, trivial⟩).mono post
theorem wideTells_holds : Rows.WideTellsSaid :=
  OpenClaim.holds_of_wide 3 Try.f3 rfl rfl rfl rfl rfl rfl rfl ⟨rfl, rfl, rfl, rfl, rfl⟩ rfl rfl rfl rfl rfl (by kernel_rfl) rfl (by kernel_rfl)
    (of_decide_eq_true (by kernel_rfl)) (by unfold Func.isWrapper; first | (rw [if_pos (by decide +kernel)]; kernel_rfl) | (rw [if_neg (by decide +kernel)]; exact ⟨rfl, rfl⟩))
    (fun os started H enc _ => wideTells_lifted os started H enc)
end Go.Proofs.Ytpofhfhejnapkaa
