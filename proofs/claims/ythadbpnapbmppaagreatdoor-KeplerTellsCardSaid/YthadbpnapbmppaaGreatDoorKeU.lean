/-
  The law KeplerTells comes to true. Printed by keU.py.
-/
import Derived.Test.YthadbpnapbmppaaGreatDoorKeT
set_option maxRecDepth 100000
namespace Go.Ke
open Go Go.RowKit Go.Sx Go.Nm Go.Wd Go.Qt Go.Iv Go.An Go.Wv Go.Nv Go.Proofs
noncomputable def EU : Env P := ⟨⟨kWakes :: (kepC ++ ref20C), []⟩, [], 20, []⟩
theorem kt0_leaf (m e p f : Int) (hm : I64 m) (he : I64 e) (hp : I64 p) (hf : I64 f) (q0 : (((gpI m e p).lo == (gpI m e p).lo) && (((gpI m e p).hi == (gpI m e p).hi) && (((gpI m e p).bad) == ((gpI m e p).bad)))) = true) (q1 : (gpE m e p == gpE m e p) = true) (q2 : (((soI m e f).lo == (soI m e f).lo) && (((soI m e f).hi == (soI m e f).hi) && (((soI m e f).bad) == ((soI m e f).bad)))) = true) (q3 : (soN m e f == soN m e f) = true) (q4 : (soE m e f == soE m e f) = true) (q5 : (nrP m e == nrP m e) = true) (q6 : (nrR m e == nrR m e) = true) (q7 : (nrE m e == nrE m e) = true) (q8 : ((beB m e p) == (beB m e p)) = true) : Gives P 3 #[.int .i64 m, .int .i64 e, .int .i64 p, .int .i64 f] (.bool true) := by
  have _u := And.intro hm (And.intro he (And.intro hp hf))
  refine gives_of_run (E := EU) (lv := 1) (ds := (.b true :: (.b true :: (.b true :: (.b true :: (.b true :: (.b true :: (.b true :: (.b true :: (.b true :: [])))))))))) (v := .bool true) (ps := [i3P [.int .i64 m, .int .i64 e, .int .i64 p], i3P [.int .i64 m, .int .i64 e, .int .i64 p], i3P [.int .i64 m, .int .i64 e, .int .i64 f], i3P [.int .i64 m, .int .i64 e, .int .i64 f], i2P [.int .i64 m, .int .i64 e], i2P [.int .i64 m, .int .i64 e], (((gpI m e p).lo == (gpI m e p).lo) && (((gpI m e p).hi == (gpI m e p).hi) && (((gpI m e p).bad) == ((gpI m e p).bad)))) = true, (gpE m e p == gpE m e p) = true, (((soI m e f).lo == (soI m e f).lo) && (((soI m e f).hi == (soI m e f).hi) && (((soI m e f).bad) == ((soI m e f).bad)))) = true, (soN m e f == soN m e f) = true, (soE m e f == soE m e f) = true, (nrP m e == nrP m e) = true, (nrR m e == nrR m e) = true, (nrE m e == nrE m e) = true, i3P [.int .i64 m, .int .i64 e, .int .i64 p], i3P [.int .i64 m, .int .i64 e, .int .i64 p], ((beB m e p) == (beB m e p)) = true, wakesP []]) mo (by kernel_rfl) (ps_cons ⟨hm, he, hp⟩ (ps_cons ⟨hm, he, hp⟩ (ps_cons ⟨hm, he, hf⟩ (ps_cons ⟨hm, he, hf⟩ (ps_cons ⟨hm, he⟩ (ps_cons ⟨hm, he⟩ (ps_cons q0 (ps_cons q1 (ps_cons q2 (ps_cons q3 (ps_cons q4 (ps_cons q5 (ps_cons q6 (ps_cons q7 (ps_cons ⟨hm, he, hp⟩ (ps_cons ⟨hm, he, hp⟩ (ps_cons q8 (ps_cons trivial ps_nil)))))))))))))))))) ?_
  rfl
theorem KeplerTells_all (m e p f : Int) (hm : I64 m) (he : I64 e) (hp : I64 p) (hf : I64 f) : Gives P 3 #[.int .i64 m, .int .i64 e, .int .i64 p, .int .i64 f] (.bool true) := by
  have q0 : (((gpI m e p).lo == (gpI m e p).lo) && (((gpI m e p).hi == (gpI m e p).hi) && (((gpI m e p).bad) == ((gpI m e p).bad)))) = true := (by simp)
  have q1 : (gpE m e p == gpE m e p) = true := (by simp)
  have q2 : (((soI m e f).lo == (soI m e f).lo) && (((soI m e f).hi == (soI m e f).hi) && (((soI m e f).bad) == ((soI m e f).bad)))) = true := (by simp)
  have q3 : (soN m e f == soN m e f) = true := (by simp)
  have q4 : (soE m e f == soE m e f) = true := (by simp)
  have q5 : (nrP m e == nrP m e) = true := (by simp)
  have q6 : (nrR m e == nrR m e) = true := (by simp)
  have q7 : (nrE m e == nrE m e) = true := (by simp)
  have q8 : ((beB m e p) == (beB m e p)) = true := (by simp)
  exact kt0_leaf m e p f hm he hp hf q0 q1 q2 q3 q4 q5 q6 q7 q8
end Go.Ke
