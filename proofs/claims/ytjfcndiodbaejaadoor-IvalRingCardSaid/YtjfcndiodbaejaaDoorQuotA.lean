/-
  Contracts of package quot, first part: must, sure, told.
-/
import Derived.Test.YtjfcndiodbaejaaDoorRefD
import Derived.Test.YtjfcndiodbaejaaDoorSxK
set_option maxRecDepth 100000
namespace Go.Qt
open Go Go.RowKit Go.Sx Go.Nm Go.Wd Go.Proofs

noncomputable def Q0 : Env P := ⟨⟨[], []⟩, [], 10, []⟩
/-! ### must, sure: where all is well -/
def mustP : List Value → Prop
  | [.bool b, .int .i64 _] => b = true
  | _ => False
theorem must_run (e : Int) : runF P Q0 1 126 [.bool true, .int .i64 e] [] = some (.tuple #[], []) := by kernel_rfl
theorem must_gives (args : List Value) (h : mustP args) : Gives P 126 args.toArray (.tuple #[]) := by
  unfold mustP at h
  split at h
  · subst h
    exact gives_of_run mo (must_run _) ps_nil rfl
  · exact h.elim
noncomputable def must : Ctr P := ⟨126, mustP, fun _ => .tuple #[], must_gives⟩
def sureP : List Value → Prop
  | [x, .bool b] => IsW x ∧ b = false
  | _ => False
def sureV : List Value → Value
  | [x, _] => x
  | _ => undef
theorem sure_run (a : Int) : runF P ⟨[must], [], 10, []⟩ 1 127 [W a, .bool false] [] = some (W a, [true = true]) := by kernel_rfl
theorem sure_gives (args : List Value) (h : sureP args) : Gives P 127 args.toArray (sureV args) := by
  unfold sureP at h
  split at h
  · obtain ⟨⟨n, rfl⟩, rfl⟩ := h
    exact gives_of_run mo (sure_run n) (ps_cons rfl ps_nil) rfl
  · exact h.elim
noncomputable def sure : Ctr P := ⟨127, sureP, sureV, sure_gives⟩

/-! ### told's deferred literal -/
noncomputable def tf : Func := Tryd.f125
def opsOf : Code → Array Oper
  | .seq (.region _ ops _) _ => ops
  | _ => #[]
def restOf : Code → Code
  | .seq _ y => y
  | c => c
def codeOf (f : Func) : Code := f.body.getD .skip
noncomputable def tOps : Array Oper := opsOf (codeOf tf)
noncomputable def tRest : Code := restOf (codeOf tf)
noncomputable def toldD : DefC P :=
  recC mo Q0 (by rfl) 1 125 0 5 tf tOps tRest (tOps[0]?.getD default) (by kernel_rfl) (by kernel_rfl) (by kernel_rfl) (of_decide_eq_true (by kernel_rfl)) (by kernel_rfl) (by kernel_rfl) (by kernel_rfl) (of_decide_eq_true (by kernel_rfl)) (by kernel_rfl)

/-! ### told, in use: a floor by nought -/
noncomputable def Qz : Env P := ⟨wideC, [], 10, [toldD]⟩
theorem floor_zero (a : Int) : runF P Qz 8 73 [W a, W 0] [] = some (.tuple #[W 0, .int .i64 30], []) := by kernel_rfl
end Go.Qt
