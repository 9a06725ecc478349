/-
  Laws of chapter 28: HermiteNear, HermiteEnds, HermiteStraight come to true. Printed by heD.py.
-/
import Derived.Test.YtdnpnccieabmiaaDoorHeC
set_option maxRecDepth 100000
namespace Go.He
open Go Go.RowKit Go.Sx Go.Nm Go.Wd Go.Qt Go.Proofs
def mn (x y : Int) : Int := if y < x then y else x
def mx (x y : Int) : Int := if y > x then y else x
theorem mx_le {a b c : Int} : mx a b ≤ c ↔ a ≤ c ∧ b ≤ c := by unfold mx; omega
theorem mn_ge {a b c : Int} : mn a b ≥ c ↔ a ≥ c ∧ b ≥ c := by unfold mn; omega
noncomputable def E0 : Env P := ⟨⟨[], []⟩, [], 10, []⟩
def wakesP : List Value → Prop
  | [] => True
  | _ => False
def wakesV : List Value → Value
  | [] => .bool true
  | _ => undef
noncomputable def EW : Env P := ⟨⟨cFine :: (hermC ++ (wideC ++ quotC)), []⟩, [], 30, []⟩
theorem wakes_run : runF P EW 10 5 [] (.b true :: (.b true :: [])) = some (.bool true, [plP [.int .i64 0, .int .i64 0, .int .i64 8, .int .i64 0, .int .i64 2, .int .i64 1], spP [.int .i64 0, .int .i64 0, .int .i64 8, .int .i64 0, .int .i64 2, .int .i64 1], plP [.int .i64 0, .int .i64 0, .int .i64 8, .int .i64 0, .int .i64 2, .int .i64 3], 0 < 1, 0 < 1, 0 < 1, 0 < 1, 0 < 1, 0 < 1, 0 < 1, 0 < 1, neP [.agg #[.int .i64 1, .int .i64 1, .int .i64 3, .int .i64 1, .int .i64 2, .int .i64 1], .func (.func 17) #[] #[]], neP [.agg #[.int .i64 1, .int .i64 1, .int .i64 3, .int .i64 1, .int .i64 2, .int .i64 1], .func (.func 20) #[] #[]], neP [.agg #[.int .i64 2, .int .i64 0, .int .i64 2, .int .i64 0, .int .i64 2, .int .i64 1], .func (.func 17) #[] #[]], neP [.agg #[.int .i64 2, .int .i64 0, .int .i64 2, .int .i64 0, .int .i64 2, .int .i64 1], .func (.func 20) #[] #[]], neP [.agg #[.int .i64 3, .int .i64 (-1), .int .i64 1, .int .i64 (-1), .int .i64 2, .int .i64 1], .func (.func 17) #[] #[]], neP [.agg #[.int .i64 3, .int .i64 (-1), .int .i64 1, .int .i64 (-1), .int .i64 2, .int .i64 1], .func (.func 20) #[] #[]], 0 < 1000000, weP [.int .i64 2, .int .i64 1], 0 < 1, 0 < 1, 0 < 1, 0 < 1]) := by kernel_rfl
theorem wakes_gives (args : List Value) (h : wakesP args) : Gives P 5 args.toArray (wakesV args) := by
  unfold wakesP at h
  split at h
  · exact gives_of_run mo wakes_run (ps_cons trivial (ps_cons trivial (ps_cons trivial (ps_cons (by decide) (ps_cons (by decide) (ps_cons (by decide) (ps_cons (by decide) (ps_cons (by decide) (ps_cons (by decide) (ps_cons (by decide) (ps_cons (by decide) (ps_cons ⟨⟨_, _, _, _, _, _, rfl⟩, by first | exact .inl rfl | exact .inr rfl⟩ (ps_cons ⟨⟨_, _, _, _, _, _, rfl⟩, by first | exact .inl rfl | exact .inr rfl⟩ (ps_cons ⟨⟨_, _, _, _, _, _, rfl⟩, by first | exact .inl rfl | exact .inr rfl⟩ (ps_cons ⟨⟨_, _, _, _, _, _, rfl⟩, by first | exact .inl rfl | exact .inr rfl⟩ (ps_cons ⟨⟨_, _, _, _, _, _, rfl⟩, by first | exact .inl rfl | exact .inr rfl⟩ (ps_cons ⟨⟨_, _, _, _, _, _, rfl⟩, by first | exact .inl rfl | exact .inr rfl⟩ (ps_cons (by decide) (ps_cons trivial (ps_cons (by decide) (ps_cons (by decide) (ps_cons (by decide) (ps_cons (by decide) ps_nil))))))))))))))))))))))) rfl
  · exact h.elim
noncomputable def cWakes : Ctr P := ⟨5, wakesP, wakesV, wakes_gives⟩
theorem May.t' {x v y w h t s : Int} (M : May x v y w h t) (h0 : 0 ≤ s) (h1 : s ≤ h) : May x v y w h s := ⟨M.x1, M.x2, M.y1, M.y2, M.v1, M.v2, M.w1, M.w2, M.h1, M.h2, h0, h1⟩
theorem May.back {x v y w h t : Int} (M : May x v y w h t) : May y (-w) x (-v) h (h - t) := by
  have := M.w1
  have := M.w2
  have := M.v1
  have := M.v2
  have := M.t1
  have := M.t2
  exact ⟨M.y1, M.y2, M.x1, M.x2, by omega, by omega, by omega, by omega, M.h1, M.h2, by omega, by omega⟩
theorem May.neg {x v y w h t : Int} (M : May x v y w h t) : May (-x) (-v) (-y) (-w) h t := by
  have := M.w1
  have := M.w2
  have := M.v1
  have := M.v2
  have := M.x1
  have := M.x2
  have := M.y1
  have := M.y2
  exact ⟨by omega, by omega, by omega, by omega, by omega, by omega, by omega, by omega, M.h1, M.h2, M.t1, M.t2⟩
def en (x v h : Int) : Int := IntKind.i64.wrap (x + (IntKind.i64.wrap (h * v)))
def lo (x v y w h t : Int) : Int := IntKind.i64.wrap (IntKind.i64.wrap (2 * (place x v y w h t)) - 1)
def hi (x v y w h t : Int) : Int := IntKind.i64.wrap (IntKind.i64.wrap (2 * (place x v y w h t)) + 1)
def kB (h t : Int) : Int := IntKind.i64.wrap (2 * (wB h t))
end Go.He
