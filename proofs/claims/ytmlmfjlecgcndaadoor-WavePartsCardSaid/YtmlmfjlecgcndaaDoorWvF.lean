/-
  Laws of chapter 7: wakes, squares, meet; WaveOne, WaveSums come to true. Printed by wvF.py.
-/
import Derived.Test.YtmlmfjlecgcndaaDoorWvD
import Derived.Test.YtmlmfjlecgcndaaDoorRf5
set_option maxRecDepth 100000
namespace Go.Wv
open Go Go.RowKit Go.Sx Go.Nm Go.Wd Go.Qt Go.Iv Go.Proofs

def wakesP : List Value → Prop
  | [] => True
  | _ => False
def wakesV : List Value → Value := fun _ => .bool true
def teP : List Value → Prop
  | [.int .i64 n, .int .i64 k, .bool c] => (n = 1073741824 ∧ k = 1 ∧ c = true) ∨ (n = 0 ∧ k = 14 ∧ c = true)
  | _ => False
def teV : List Value → Value
  | [.int _ n, .int _ k, .bool c] => I (termI c n k)
  | _ => undef
noncomputable def ET : Env P := ⟨⟨ivalC, ivalD⟩, [], 20, []⟩
theorem te1_run : runF P ET 3 23 [.int .i64 1073741824, .int .i64 1, .bool true] [] =
  some (I (tm true 1073741824 1),
    [nP1 [.int .i64 1],
     nP1 [.int .i64 1073741824],
     nP1 [.int .i64 1073741824],
     iP2 [I (pointI 1073741824), I (pointI 1073741824)],
     iP2 [I (ofI 1), I (qI 1073741824)],
     partP [I (mulI (tm true 1073741824 0) (qI 1073741824)), .int .i64 (-1), .int .i64 2]]) := by kernel_rfl
theorem te1_leaf : Gives P 23 #[.int .i64 1073741824, .int .i64 1, .bool true] (I (termI true 1073741824 1)) := by
  exact gives_of_run mo te1_run (ps_cons (by unfold nP1 I64; omega) (ps_cons (by unfold nP1 I64; omega) (ps_cons (by unfold nP1 I64; omega) (ps_cons ⟨⟨_, rfl⟩, _, rfl⟩ (ps_cons ⟨⟨_, rfl⟩, _, rfl⟩ (ps_cons ⟨⟨_, rfl⟩, by unfold I64; omega, by unfold I64; omega⟩ ps_nil)))))) (by kernel_rfl)
theorem te2_run : runF P ET 3 23 [.int .i64 0, .int .i64 14, .bool true] [] =
  some (I (⟨0, 0, true⟩),
    [nP1 [.int .i64 1],
     nP1 [.int .i64 0],
     nP1 [.int .i64 0],
     iP2 [I (pointI 0), I (pointI 0)],
     iP2 [I (ofI 1), I (qI 0)],
     partP [I (mulI (tm true 0 0) (qI 0)), .int .i64 (-1), .int .i64 2],
     iP2 [I (tm true 0 1), I (qI 0)],
     partP [I (mulI (tm true 0 1) (qI 0)), .int .i64 (-1), .int .i64 12],
     iP2 [I (tm true 0 2), I (qI 0)],
     partP [I (mulI (tm true 0 2) (qI 0)), .int .i64 (-1), .int .i64 30],
     iP2 [I (tm true 0 3), I (qI 0)],
     partP [I (mulI (tm true 0 3) (qI 0)), .int .i64 (-1), .int .i64 56],
     iP2 [I (tm true 0 4), I (qI 0)],
     partP [I (mulI (tm true 0 4) (qI 0)), .int .i64 (-1), .int .i64 90],
     iP2 [I (tm true 0 5), I (qI 0)],
     partP [I (mulI (tm true 0 5) (qI 0)), .int .i64 (-1), .int .i64 132],
     iP2 [I (tm true 0 6), I (qI 0)],
     partP [I (mulI (tm true 0 6) (qI 0)), .int .i64 (-1), .int .i64 182],
     iP2 [I (tm true 0 7), I (qI 0)],
     partP [I (mulI (tm true 0 7) (qI 0)), .int .i64 (-1), .int .i64 240],
     iP2 [I (tm true 0 8), I (qI 0)],
     partP [I (mulI (tm true 0 8) (qI 0)), .int .i64 (-1), .int .i64 306],
     iP2 [I (tm true 0 9), I (qI 0)],
     partP [I (mulI (tm true 0 9) (qI 0)), .int .i64 (-1), .int .i64 380],
     iP2 [I (tm true 0 10), I (qI 0)],
     partP [I (mulI (tm true 0 10) (qI 0)), .int .i64 (-1), .int .i64 462],
     iP2 [I (tm true 0 11), I (qI 0)],
     partP [I (mulI (tm true 0 11) (qI 0)), .int .i64 (-1), .int .i64 552],
     iP2 [I (tm true 0 12), I (qI 0)],
     partP [I (mulI (tm true 0 12) (qI 0)), .int .i64 (-1), .int .i64 650],
     iP2 [I (tm true 0 13), I (qI 0)],
     partP [I (mulI (tm true 0 13) (qI 0)), .int .i64 (-1), .int .i64 756]]) := by kernel_rfl
theorem te2_leaf : Gives P 23 #[.int .i64 0, .int .i64 14, .bool true] (I (termI true 0 14)) := by
  exact gives_of_run mo te2_run (ps_cons (by unfold nP1 I64; omega) (ps_cons (by unfold nP1 I64; omega) (ps_cons (by unfold nP1 I64; omega) (ps_cons ⟨⟨_, rfl⟩, _, rfl⟩ (ps_cons ⟨⟨_, rfl⟩, _, rfl⟩ (ps_cons ⟨⟨_, rfl⟩, by unfold I64; omega, by unfold I64; omega⟩ (ps_cons ⟨⟨_, rfl⟩, _, rfl⟩ (ps_cons ⟨⟨_, rfl⟩, by unfold I64; omega, by unfold I64; omega⟩ (ps_cons ⟨⟨_, rfl⟩, _, rfl⟩ (ps_cons ⟨⟨_, rfl⟩, by unfold I64; omega, by unfold I64; omega⟩ (ps_cons ⟨⟨_, rfl⟩, _, rfl⟩ (ps_cons ⟨⟨_, rfl⟩, by unfold I64; omega, by unfold I64; omega⟩ (ps_cons ⟨⟨_, rfl⟩, _, rfl⟩ (ps_cons ⟨⟨_, rfl⟩, by unfold I64; omega, by unfold I64; omega⟩ (ps_cons ⟨⟨_, rfl⟩, _, rfl⟩ (ps_cons ⟨⟨_, rfl⟩, by unfold I64; omega, by unfold I64; omega⟩ (ps_cons ⟨⟨_, rfl⟩, _, rfl⟩ (ps_cons ⟨⟨_, rfl⟩, by unfold I64; omega, by unfold I64; omega⟩ (ps_cons ⟨⟨_, rfl⟩, _, rfl⟩ (ps_cons ⟨⟨_, rfl⟩, by unfold I64; omega, by unfold I64; omega⟩ (ps_cons ⟨⟨_, rfl⟩, _, rfl⟩ (ps_cons ⟨⟨_, rfl⟩, by unfold I64; omega, by unfold I64; omega⟩ (ps_cons ⟨⟨_, rfl⟩, _, rfl⟩ (ps_cons ⟨⟨_, rfl⟩, by unfold I64; omega, by unfold I64; omega⟩ (ps_cons ⟨⟨_, rfl⟩, _, rfl⟩ (ps_cons ⟨⟨_, rfl⟩, by unfold I64; omega, by unfold I64; omega⟩ (ps_cons ⟨⟨_, rfl⟩, _, rfl⟩ (ps_cons ⟨⟨_, rfl⟩, by unfold I64; omega, by unfold I64; omega⟩ (ps_cons ⟨⟨_, rfl⟩, _, rfl⟩ (ps_cons ⟨⟨_, rfl⟩, by unfold I64; omega, by unfold I64; omega⟩ (ps_cons ⟨⟨_, rfl⟩, _, rfl⟩ (ps_cons ⟨⟨_, rfl⟩, by unfold I64; omega, by unfold I64; omega⟩ ps_nil)))))))))))))))))))))))))))))))) (by kernel_rfl)
theorem term_gives (args : List Value) (h : teP args) : Gives P 23 args.toArray (teV args) := by
  unfold teP at h
  split at h
  · rcases h with ⟨rfl, rfl, rfl⟩ | ⟨rfl, rfl, rfl⟩
    · exact te1_leaf
    · exact te2_leaf
  · exact h.elim
noncomputable def cTerm : Ctr P := ⟨23, teP, teV, term_gives⟩
noncomputable def EW : Env P := ⟨⟨[cTerm] ++ waveC ++ R5.rf5C ++ ivalC, rFine :: ivalD⟩, [], 20, []⟩
theorem wakes_run : runF P EW 1 7 [] [] = some (.bool true,
    [nP1 [.int .i64 0],
     iP1 [I (pointI 0)],
     iP1 [I (⟨-4, 1, false⟩)],
     nP1 [.int .i64 5],
     iP1 [I (ofI 5)],
     nP1 [.int .i64 1],
     iP2 [I (waveI true (pointI 0)), I (ofI 1)],
     nP1 [.int .i64 0],
     iP2 [I (waveI false (pointI 0)), I (pointI 0)],
     iP1 [I (waveI false (pointI 0))],
     iP1 [I (waveI false (pointI 0))],
     teP [.int .i64 1073741824, .int .i64 1, .bool true],
     teP [.int .i64 0, .int .i64 14, .bool true]]) := by kernel_rfl
theorem wakes_gives (args : List Value) (h : wakesP args) : Gives P 7 args.toArray (wakesV args) := by
  unfold wakesP at h
  split at h
  · exact gives_of_run mo wakes_run (ps_cons (by unfold nP1 I64; omega) (ps_cons ⟨_, rfl⟩ (ps_cons ⟨_, rfl⟩ (ps_cons (by unfold nP1 I64; omega) (ps_cons ⟨_, rfl⟩ (ps_cons (by unfold nP1 I64; omega) (ps_cons ⟨⟨_, rfl⟩, _, rfl⟩ (ps_cons (by unfold nP1 I64; omega) (ps_cons ⟨⟨_, rfl⟩, _, rfl⟩ (ps_cons ⟨_, rfl⟩ (ps_cons ⟨_, rfl⟩ (ps_cons (.inl ⟨rfl, rfl, rfl⟩) (ps_cons (.inr ⟨rfl, rfl, rfl⟩) ps_nil))))))))))))) rfl
  · exact h.elim
noncomputable def cWakes : Ctr P := ⟨7, wakesP, wakesV, wakes_gives⟩
def sqI (s c : Iv) : Iv := addI (mulI s s) (mulI c c)
def mtB (a b : Iv) : Bool := !(meetI a b).bad
noncomputable def ER : Env P := ⟨⟨R5.rf5C, [rFine]⟩, [], 10, []⟩
theorem mt0_run (a b : Iv) : runF P ER 1 11 [I a, I b] [] =
  some (.bool (!((meetI a b).bad)),
    [iP2 [I a, I b]]) := by kernel_rfl
theorem mt0_leaf (a b : Iv)   : Gives P 11 #[I a, I b] (.bool (mtB a b)) := by
  have R := mt0_run a b
  refine gives_of_run mo R (ps_cons ⟨⟨_, rfl⟩, _, rfl⟩ ps_nil) ?_
  rfl
theorem mt_gives (args : List Value) (h : iP2 args) : Gives P 11 args.toArray ((two2 fun a b => .bool (mtB a b)) args) := by
  unfold iP2 at h
  split at h
  · obtain ⟨⟨a, rfl⟩, b, rfl⟩ := h
    show Gives P _ #[I a, I b] (.bool (mtB a b))
    exact mt0_leaf a b  
  · exact h.elim
noncomputable def cMeets : Ctr P := ⟨11, iP2, two2 fun a b => .bool (mtB a b), mt_gives⟩
noncomputable def EL : Env P := ⟨⟨[cWakes, cMeets] ++ waveC ++ R5.rf5C, [rFine]⟩, [], 10, []⟩
theorem fl1 {a : Iv} {l : List Iv} (h : fine a = true) (k : fineL l = true) : fineL (a :: l) = true := by show (fine a && fineL l) = true; rw [h, k]; rfl
theorem same {x y : Iv} (h : x = y) : ((x.lo == y.lo) && ((x.hi == y.hi) && (x.bad == y.bad))) = true := by rw [h]; simp
structure One (a : Iv) : Prop where
  fs : fine (waveI false a) = true
  fc : fine (waveI true a) = true
  o : holdsI (sqI (waveI false a) (waveI true a)) (ofI 1) = true
  ns : waveI false (negI a) = negI (waveI false a)
  nc : waveI true (negI a) = waveI true a
  i : I64 a.lo
  ps : fine (waveI false (pointI a.lo)) = true
  pc : fine (waveI true (pointI a.lo)) = true
  w1 : decide (IntKind.i64.wrap ((waveI false (pointI a.lo)).hi - ((waveI false (pointI a.lo)).lo)) ≤ 64) = true
  w2 : decide (IntKind.i64.wrap ((waveI true (pointI a.lo)).hi - ((waveI true (pointI a.lo)).lo)) ≤ 64) = true
  w3 : decide (IntKind.i64.wrap ((waveI false a).hi - ((waveI false a).lo)) ≤ IntKind.i64.wrap (IntKind.i64.wrap (a.hi - a.lo) + 66)) = true
  w4 : decide (IntKind.i64.wrap ((waveI true a).hi - ((waveI true a).lo)) ≤ IntKind.i64.wrap (IntKind.i64.wrap (a.hi - a.lo) + 66)) = true
theorem one {a : Iv} (h : holdsI (around 4294967296) a = true) : One a := by
  obtain ⟨fa, b1, b2⟩ := holds_far h
  obtain ⟨m1, m2, m3, m4, m5, m6⟩ := mid_spec fa
  have s := wave_facts false h
  have c := wave_facts true h
  have ra := fine_iff.1 fa
  have hp := point_far (n := a.lo) (by omega) (by omega)
  have ps := wave_facts false hp
  have pc := wave_facts true hp
  have pm := (mid_point (n := a.lo) (by omega) (by omega)).2
  have w1 := wave_wide false hp
  have w2 := wave_wide true hp
  have w3 := wave_wide false h
  have w4 := wave_wide true h
  rw [pm] at w1 w2
  have rs := fine_iff.1 s.f
  have rc := fine_iff.1 c.f
  have rps := fine_iff.1 ps.f
  have rpc := fine_iff.1 pc.f
  have e : IntKind.i64.wrap (a.hi - a.lo) = a.hi - a.lo := wr (by omega) (by omega)
  refine ⟨s.f, c.f, one_held h, (wave_neg false h).2, (wave_neg true h).2, by unfold I64; omega, ps.f, pc.f, ?_, ?_, ?_, ?_⟩
  · rw [wr (by omega) (by omega)]; exact decide_eq_true (by omega)
  · rw [wr (by omega) (by omega)]; exact decide_eq_true (by omega)
  · rw [e, wr (by omega) (by omega), wr (by omega) (by omega)]; exact decide_eq_true (by omega)
  · rw [e, wr (by omega) (by omega), wr (by omega) (by omega)]; exact decide_eq_true (by omega)
theorem mt {a b : Iv} (h : (meetI a b).bad = false) : mtB a b = true := by unfold mtB; rw [h]; rfl
end Go.Wv
