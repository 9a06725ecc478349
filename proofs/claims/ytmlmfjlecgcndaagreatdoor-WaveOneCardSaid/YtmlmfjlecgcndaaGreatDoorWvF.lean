/-
  Laws of chapter 7: wakes, squares, meet; WaveOne, WaveSums come to true. Printed by wvF.py.
-/
import Derived.Test.YtmlmfjlecgcndaaGreatDoorWvD
import Derived.Test.YtmlmfjlecgcndaaGreatDoorRf5
set_option maxRecDepth 100000
namespace Go.Wv
open Go Go.RowKit Go.Sx Go.Nm Go.Wd Go.Qt Go.Iv Go.Proofs

def wakesP : List Value → Prop
  | [] => True
  | _ => False
def wakesV : List Value → Value := fun _ => .bool true
def teP : List Value → Prop
  | [.int .i64 n, .int .i64 k, .bool c] => (n = 1073741824 ∧ k = 1 ∧ c = true) ∨ (n = 0 ∧ k = 14 ∧ c = true)
  | _ => False
def teV : List Value → Value
  | [.int _ n, .int _ k, .bool c] => I (termI c n k)
  | _ => undef
noncomputable def ET : Env P := ⟨⟨ivalC, ivalD⟩, [], 20, []⟩
theorem te1_run : runF P ET 3 36 [.int .i64 1073741824, .int .i64 1, .bool true] [] =
  some (I (tm true 1073741824 1),
    [nP1 [.int .i64 1],
     nP1 [.int .i64 1073741824],
     nP1 [.int .i64 1073741824],
     iP2 [I (pointI 1073741824), I (pointI 1073741824)],
     iP2 [I (ofI 1), I (qI 1073741824)],
     partP [I (mulI (tm true 1073741824 0) (qI 1073741824)), .int .i64 (-1), .int .i64 2]]) := by kernel_rfl
theorem te1_leaf : Gives P 36 #[.int .i64 1073741824, .int .i64 1, .bool true] (I (termI true 1073741824 1)) := by
  exact gives_of_run mo te1_run (ps_cons (by unfold nP1 I64; omega) (ps_cons (by unfold nP1 I64; omega) (ps_cons (by unfold nP1 I64; omega) (ps_cons ⟨⟨_, rfl⟩, _, rfl⟩ (ps_cons ⟨⟨_, rfl⟩, _, rfl⟩ (ps_cons ⟨⟨_, rfl⟩, by unfold I64; omega, by unfold I64; omega⟩ ps_nil)))))) (by kernel_rfl)
theorem te2_run : runF P ET 3 36 [.int .i64 0, .int .i64 14, .bool true] [] =
  some (I (⟨0, 0, true⟩),
    [nP1 [.int .i64 1],
     nP1 [.int .i64 0],
     nP1 [.int .i64 0],
     iP2 [I (pointI 0), I (pointI 0)],
     iP2 [I (ofI 1), I (qI 0)],
     partP [I (mulI (tm true 0 0) (qI 0)), .int .i64 (-1), .int .i64 2],
     iP2 [I (tm true 0 1), I (qI 0)],
     partP [I (mulI (tm true 0 1) (qI 0)), .int .i64 (-1), .int .i64 12],
     iP2 [I (tm true 0 2), I (qI 0)],
     partP [I (mulI (tm true 0 2) (qI 0)), .int .i64 (-1), .int .i64 30],
     iP2 [I (tm true 0 3), I (qI 0)],
     partP [I (mulI (tm true 0 3) (qI 0)), .int .i64 (-1), .int .i64 56],
     iP2 [I (tm true 0 4), I (qI 0)],
     partP [I (mulI (tm true 0 4) (qI 0)), .int .i64 (-1), .int .i64 90],
     iP2 [I (tm true 0 5), I (qI 0)],
     partP [I (mulI (tm true 0 5) (qI 0)), .int .i64 (-1), .int .i64 132],
     iP2 [I (tm true 0 6), I (qI 0)],
     partP [I (mulI (tm true 0 6) (qI 0)), .int .i64 (-1), .int .i64 182],
     iP2 [I (tm true 0 7), I (qI 0)],
     partP [I (mulI (tm true 0 7) (qI 0)), .int .i64 (-1), .int .i64 240],
     iP2 [I (tm true 0 8), I (qI 0)],
     partP [I (mulI (tm true 0 8) (qI 0)), .int .i64 (-1), .int .i64 306],
     iP2 [I (tm true 0 9), I (qI 0)],
     partP [I (mulI (tm true 0 9) (qI 0)), .int .i64 (-1), .int .i64 380],
     iP2 [I (tm true 0 10), I (qI 0)],
     partP [I (mulI (tm true 0 10) (qI 0)), .int .i64 (-1), .int .i64 462],
     iP2 [I (tm true 0 11), I (qI 0)],
     partP [I (mulI (tm true 0 11) (qI 0)), .int .i64 (-1), .int .i64 552],
     iP2 [I (tm true 0 12), I (qI 0)],
     partP [I (mulI (tm true 0 12) (qI 0)), .int .i64 (-1), .int .i64 650],
     iP2 [I (tm true 0 13), I (qI 0)],
     partP [I (mulI (tm true 0 13) (qI 0)), .int .i64 (-1), .int .i64 756]]) := by kernel_rfl
theorem te2_leaf : Gives P 36 #[.int .i64 0, .int .i64 14, .bool true] (I (termI true 0 14)) := by
  exact gives_of_run mo te2_run (ps_cons (by unfold nP1 I64; omega) (ps_cons (by unfold nP1 I64; omega) (ps_cons (by unfold nP1 I64; omega) (ps_cons ⟨⟨_, rfl⟩, _, rfl⟩ (ps_cons ⟨⟨_, rfl⟩, _, rfl⟩ (ps_cons ⟨⟨_, rfl⟩, by unfold I64; omega, by unfold I64; omega⟩ (ps_cons ⟨⟨_, rfl⟩, _, rfl⟩ (ps_cons ⟨⟨_, rfl⟩, by unfold I64; omega, by unfold I64; omega⟩ (ps_cons ⟨⟨_, rfl⟩, _, rfl⟩ (ps_cons ⟨⟨_, rfl⟩, by unfold I64; omega, by unfold I64; omega⟩ (ps_cons ⟨⟨_, rfl⟩, _, rfl⟩ (ps_cons ⟨⟨_, rfl⟩, by unfold I64; omega, by unfold I64; omega⟩ (ps_cons ⟨⟨_, rfl⟩, _, rfl⟩ (ps_cons ⟨⟨_, rfl⟩, by unfold I64; omega, by unfold I64; omega⟩ (ps_cons ⟨⟨_, rfl⟩, _, rfl⟩ (ps_cons ⟨⟨_, rfl⟩, by unfold I64; omega, by unfold I64; omega⟩ (ps_cons ⟨⟨_, rfl⟩, _, rfl⟩ (ps_cons ⟨⟨_, rfl⟩, by unfold I64; omega, by unfold I64; omega⟩ (ps_cons ⟨⟨_, rfl⟩, _, rfl⟩ (ps_cons ⟨⟨_, rfl⟩, by unfold I64; omega, by unfold I64; omega⟩ (ps_cons ⟨⟨_, rfl⟩, _, rfl⟩ (ps_cons ⟨⟨_, rfl⟩, by unfold I64; omega, by unfold I64; omega⟩ (ps_cons ⟨⟨_, rfl⟩, _, rfl⟩ (ps_cons ⟨⟨_, rfl⟩, by unfold I64; omega, by unfold I64; omega⟩ (ps_cons ⟨⟨_, rfl⟩, _, rfl⟩ (ps_cons ⟨⟨_, rfl⟩, by unfold I64; omega, by unfold I64; omega⟩ (ps_cons ⟨⟨_, rfl⟩, _, rfl⟩ (ps_cons ⟨⟨_, rfl⟩, by unfold I64; omega, by unfold I64; omega⟩ (ps_cons ⟨⟨_, rfl⟩, _, rfl⟩ (ps_cons ⟨⟨_, rfl⟩, by unfold I64; omega, by unfold I64; omega⟩ (ps_cons ⟨⟨_, rfl⟩, _, rfl⟩ (ps_cons ⟨⟨_, rfl⟩, by unfold I64; omega, by unfold I64; omega⟩ ps_nil)))))))))))))))))))))))))))))))) (by kernel_rfl)
theorem term_gives (args : List Value) (h : teP args) : Gives P 36 args.toArray (teV args) := by
  unfold teP at h
  split at h
  · rcases h with ⟨rfl, rfl, rfl⟩ | ⟨rfl, rfl, rfl⟩
    · exact te1_leaf
    · exact te2_leaf
  · exact h.elim
noncomputable def cTerm : Ctr P := ⟨36, teP, teV, term_gives⟩
noncomputable def EW : Env P := ⟨⟨[cTerm] ++ waveC ++ R5.rf5C ++ ivalC, rFine :: ivalD⟩, [], 20, []⟩
theorem wakes_run : runF P EW 1 11 [] [] = some (.bool true,
    [nP1 [.int .i64 0],
     iP1 [I (pointI 0)],
     iP1 [I (⟨-4, 1, false⟩)],
     nP1 [.int .i64 5],
     iP1 [I (ofI 5)],
     nP1 [.int .i64 1],
     iP2 [I (waveI true (pointI 0)), I (ofI 1)],
     nP1 [.int .i64 0],
     iP2 [I (waveI false (pointI 0)), I (pointI 0)],
     iP1 [I (waveI false (pointI 0))],
     iP1 [I (waveI false (pointI 0))],
     teP [.int .i64 1073741824, .int .i64 1, .bool true],
     teP [.int .i64 0, .int .i64 14, .bool true]]) := by kernel_rfl
theorem wakes_gives (args : List Value) (h : wakesP args) : Gives P 11 args.toArray (wakesV args) := by
  unfold wakesP at h
  split at h
  · exact gives_of_run mo wakes_run (ps_cons (by unfold nP1 I64; omega) (ps_cons ⟨_, rfl⟩ (ps_cons ⟨_, rfl⟩ (ps_cons (by unfold nP1 I64; omega) (ps_cons ⟨_, rfl⟩ (ps_cons (by unfold nP1 I64; omega) (ps_cons ⟨⟨_, rfl⟩, _, rfl⟩ (ps_cons (by unfold nP1 I64; omega) (ps_cons ⟨⟨_, rfl⟩, _, rfl⟩ (ps_cons ⟨_, rfl⟩ (ps_cons ⟨_, rfl⟩ (ps_cons (.inl ⟨rfl, rfl, rfl⟩) (ps_cons (.inr ⟨rfl, rfl, rfl⟩) ps_nil))))))))))))) rfl
  · exact h.elim
noncomputable def cWakes : Ctr P := ⟨11, wakesP, wakesV, wakes_gives⟩
def sqI (s c : Iv) : Iv := addI (mulI s s) (mulI c c)
def mtB (a b : Iv) : Bool := !(meetI a b).bad
noncomputable def ER : Env P := ⟨⟨R5.rf5C, [rFine]⟩, [], 10, []⟩
theorem sq0_run (a b : Iv) : runF P ER 1 15 [I a, I b] [] =
  some (I (addI (mulI a a) (mulI b b)),
    [iP2 [I a, I a],
     iP2 [I b, I b],
     iP2 [I (mulI a a), I (mulI b b)]]) := by kernel_rfl
theorem sq0_leaf (a b : Iv)   : Gives P 15 #[I a, I b] (I (sqI a b)) := by
  have R := sq0_run a b
  refine gives_of_run mo R (ps_cons ⟨⟨_, rfl⟩, _, rfl⟩ (ps_cons ⟨⟨_, rfl⟩, _, rfl⟩ (ps_cons ⟨⟨_, rfl⟩, _, rfl⟩ ps_nil))) ?_
  rfl
theorem sq_gives (args : List Value) (h : iP2 args) : Gives P 15 args.toArray ((two2 fun a b => I (sqI a b)) args) := by
  unfold iP2 at h
  split at h
  · obtain ⟨⟨a, rfl⟩, b, rfl⟩ := h
    show Gives P _ #[I a, I b] (I (sqI a b))
    exact sq0_leaf a b  
  · exact h.elim
noncomputable def cSquares : Ctr P := ⟨15, iP2, two2 fun a b => I (sqI a b), sq_gives⟩
theorem mt0_run (a b : Iv) : runF P ER 1 19 [I a, I b] [] =
  some (.bool (!((meetI a b).bad)),
    [iP2 [I a, I b]]) := by kernel_rfl
theorem mt0_leaf (a b : Iv)   : Gives P 19 #[I a, I b] (.bool (mtB a b)) := by
  have R := mt0_run a b
  refine gives_of_run mo R (ps_cons ⟨⟨_, rfl⟩, _, rfl⟩ ps_nil) ?_
  rfl
theorem mt_gives (args : List Value) (h : iP2 args) : Gives P 19 args.toArray ((two2 fun a b => .bool (mtB a b)) args) := by
  unfold iP2 at h
  split at h
  · obtain ⟨⟨a, rfl⟩, b, rfl⟩ := h
    show Gives P _ #[I a, I b] (.bool (mtB a b))
    exact mt0_leaf a b  
  · exact h.elim
noncomputable def cMeets : Ctr P := ⟨19, iP2, two2 fun a b => .bool (mtB a b), mt_gives⟩
noncomputable def EL : Env P := ⟨⟨[cWakes, cSquares, cMeets] ++ waveC ++ R5.rf5C, [rFine]⟩, [], 10, []⟩
theorem fl1 {a : Iv} {l : List Iv} (h : fine a = true) (k : fineL l = true) : fineL (a :: l) = true := by show (fine a && fineL l) = true; rw [h, k]; rfl
theorem same {x y : Iv} (h : x = y) : ((x.lo == y.lo) && ((x.hi == y.hi) && (x.bad == y.bad))) = true := by rw [h]; simp
structure One (a : Iv) : Prop where
  fs : fine (waveI false a) = true
  fc : fine (waveI true a) = true
  o : holdsI (sqI (waveI false a) (waveI true a)) (ofI 1) = true
  ns : waveI false (negI a) = negI (waveI false a)
  nc : waveI true (negI a) = waveI true a
  i : I64 a.lo
  ps : fine (waveI false (pointI a.lo)) = true
  pc : fine (waveI true (pointI a.lo)) = true
  w1 : decide (IntKind.i64.wrap ((waveI false (pointI a.lo)).hi - ((waveI false (pointI a.lo)).lo)) ≤ 64) = true
  w2 : decide (IntKind.i64.wrap ((waveI true (pointI a.lo)).hi - ((waveI true (pointI a.lo)).lo)) ≤ 64) = true
  w3 : decide (IntKind.i64.wrap ((waveI false a).hi - ((waveI false a).lo)) ≤ IntKind.i64.wrap (IntKind.i64.wrap (a.hi - a.lo) + 66)) = true
  w4 : decide (IntKind.i64.wrap ((waveI true a).hi - ((waveI true a).lo)) ≤ IntKind.i64.wrap (IntKind.i64.wrap (a.hi - a.lo) + 66)) = true
theorem one {a : Iv} (h : holdsI (around 4294967296) a = true) : One a := by
  obtain ⟨fa, b1, b2⟩ := holds_far h
  obtain ⟨m1, m2, m3, m4, m5, m6⟩ := mid_spec fa
  have s := wave_facts false h
  have c := wave_facts true h
  have ra := fine_iff.1 fa
  have hp := point_far (n := a.lo) (by omega) (by omega)
  have ps := wave_facts false hp
  have pc := wave_facts true hp
  have pm := (mid_point (n := a.lo) (by omega) (by omega)).2
  have w1 := wave_wide false hp
  have w2 := wave_wide true hp
  have w3 := wave_wide false h
  have w4 := wave_wide true h
  rw [pm] at w1 w2
  have rs := fine_iff.1 s.f
  have rc := fine_iff.1 c.f
  have rps := fine_iff.1 ps.f
  have rpc := fine_iff.1 pc.f
  have e : IntKind.i64.wrap (a.hi - a.lo) = a.hi - a.lo := wr (by omega) (by omega)
  refine ⟨s.f, c.f, one_held h, (wave_neg false h).2, (wave_neg true h).2, by unfold I64; omega, ps.f, pc.f, ?_, ?_, ?_, ?_⟩
  · rw [wr (by omega) (by omega)]; exact decide_eq_true (by omega)
  · rw [wr (by omega) (by omega)]; exact decide_eq_true (by omega)
  · rw [e, wr (by omega) (by omega), wr (by omega) (by omega)]; exact decide_eq_true (by omega)
  · rw [e, wr (by omega) (by omega), wr (by omega) (by omega)]; exact decide_eq_true (by omega)
theorem wo0_run (a : Iv) : runF P EL 1 3 [I a] (.b false :: (.lit :: (.b false :: (.b false :: (.b false :: (.b false :: (.lit :: (.b true :: (.b true :: (.b true :: (.b true :: (.b true :: [])))))))))))) =
  some (.bool true,
    [nP2 [.int .i64 (-4294967296), .int .i64 4294967296],
     iP2 [I (makeI (-4294967296) 4294967296), I a],
     (!(holdsI (makeI (-4294967296) 4294967296) a)) = false,
     iP1 [I a],
     iP1 [I a],
     iP1 [I (negI a)],
     fineP [ivs [waveI false a, waveI true a]],
     (!(fineL [waveI false a, waveI true a])) = false,
     iP2 [I (waveI false a), I (waveI true a)],
     nP1 [.int .i64 1],
     iP2 [I (sqI (waveI false a) (waveI true a)), I (ofI 1)],
     (!(holdsI (sqI (waveI false a) (waveI true a)) (ofI 1))) = false,
     iP1 [I (waveI false a)],
     (!(((waveI false (negI a)).lo == (negI (waveI false a)).lo) && (((waveI false (negI a)).hi == (negI (waveI false a)).hi) && (((waveI false (negI a)).bad) == ((negI (waveI false a)).bad))))) = false,
     (!(((waveI true (negI a)).lo == (waveI true a).lo) && (((waveI true (negI a)).hi == (waveI true a).hi) && (((waveI true (negI a)).bad) == ((waveI true a).bad))))) = false,
     nP1 [.int .i64 a.lo],
     iP1 [I (pointI a.lo)],
     fineP [ivs [waveI false (pointI a.lo), waveI true (pointI a.lo)]],
     (fineL [waveI false (pointI a.lo), waveI true (pointI a.lo)]) = true,
     (decide (IntKind.i64.wrap ((waveI false (pointI a.lo)).hi - ((waveI false (pointI a.lo)).lo)) ≤ 64)) = true,
     (decide (IntKind.i64.wrap ((waveI true (pointI a.lo)).hi - ((waveI true (pointI a.lo)).lo)) ≤ 64)) = true,
     (decide (IntKind.i64.wrap ((waveI false a).hi - ((waveI false a).lo)) ≤ IntKind.i64.wrap (IntKind.i64.wrap (a.hi - a.lo) + 66))) = true,
     (decide (IntKind.i64.wrap ((waveI true a).hi - ((waveI true a).lo)) ≤ IntKind.i64.wrap (IntKind.i64.wrap (a.hi - a.lo) + 66))) = true,
     wakesP []]) := by kernel_rfl
theorem wo0_leaf (a : Iv)  (q0 : (holdsI (makeI (-4294967296) 4294967296) a) = true) (q1 : (fineL [waveI false a, waveI true a]) = true) (q2 : (holdsI (sqI (waveI false a) (waveI true a)) (ofI 1)) = true) (q3 : (((waveI false (negI a)).lo == (negI (waveI false a)).lo) && (((waveI false (negI a)).hi == (negI (waveI false a)).hi) && (((waveI false (negI a)).bad) == ((negI (waveI false a)).bad)))) = true) (q4 : (((waveI true (negI a)).lo == (waveI true a).lo) && (((waveI true (negI a)).hi == (waveI true a).hi) && (((waveI true (negI a)).bad) == ((waveI true a).bad)))) = true) (q5 : (fineL [waveI false (pointI a.lo), waveI true (pointI a.lo)]) = true) (q6 : (decide (IntKind.i64.wrap ((waveI false (pointI a.lo)).hi - ((waveI false (pointI a.lo)).lo)) ≤ 64)) = true) (q7 : (decide (IntKind.i64.wrap ((waveI true (pointI a.lo)).hi - ((waveI true (pointI a.lo)).lo)) ≤ 64)) = true) (q8 : (decide (IntKind.i64.wrap ((waveI false a).hi - ((waveI false a).lo)) ≤ IntKind.i64.wrap (IntKind.i64.wrap (a.hi - a.lo) + 66))) = true) (q9 : (decide (IntKind.i64.wrap ((waveI true a).hi - ((waveI true a).lo)) ≤ IntKind.i64.wrap (IntKind.i64.wrap (a.hi - a.lo) + 66))) = true) : Gives P 3 #[I a] (.bool true) := by
  have R := wo0_run a
  refine gives_of_run mo R (ps_cons (by unfold nP2 I64; omega) (ps_cons ⟨⟨_, rfl⟩, _, rfl⟩ (ps_cons (neg_f q0) (ps_cons ⟨_, rfl⟩ (ps_cons ⟨_, rfl⟩ (ps_cons ⟨_, rfl⟩ (ps_cons (ivs_ok (by simp)) (ps_cons (neg_f q1) (ps_cons ⟨⟨_, rfl⟩, _, rfl⟩ (ps_cons (by unfold nP1 I64; omega) (ps_cons ⟨⟨_, rfl⟩, _, rfl⟩ (ps_cons (neg_f q2) (ps_cons ⟨_, rfl⟩ (ps_cons (neg_f q3) (ps_cons (neg_f q4) (ps_cons (one q0).i (ps_cons ⟨_, rfl⟩ (ps_cons (ivs_ok (by simp)) (ps_cons q5 (ps_cons q6 (ps_cons q7 (ps_cons q8 (ps_cons q9 (ps_cons trivial ps_nil)))))))))))))))))))))))) ?_
  rfl
theorem wo1_run (a : Iv) : runF P EL 1 3 [I a] (.b true :: []) =
  some (.bool true,
    [nP2 [.int .i64 (-4294967296), .int .i64 4294967296],
     iP2 [I (makeI (-4294967296) 4294967296), I a],
     (!(holdsI (makeI (-4294967296) 4294967296) a)) = true,
     wakesP []]) := by kernel_rfl
theorem wo1_leaf (a : Iv)  (q0 : (holdsI (makeI (-4294967296) 4294967296) a) = false) : Gives P 3 #[I a] (.bool true) := by
  have R := wo1_run a
  refine gives_of_run mo R (ps_cons (by unfold nP2 I64; omega) (ps_cons ⟨⟨_, rfl⟩, _, rfl⟩ (ps_cons (neg_t q0) (ps_cons trivial ps_nil)))) ?_
  rfl
theorem WaveOne_all (a : Iv) : Gives P 3 #[I a] (.bool true) := by
  cases q0 : (holdsI (makeI (-4294967296) 4294967296) a) with
  | true =>
    have q1 : (fineL [waveI false a, waveI true a]) = true := (fl1 (one q0).fs (fl1 (one q0).fc rfl))
    have q2 : (holdsI (sqI (waveI false a) (waveI true a)) (ofI 1)) = true := (one q0).o
    have q3 : (((waveI false (negI a)).lo == (negI (waveI false a)).lo) && (((waveI false (negI a)).hi == (negI (waveI false a)).hi) && (((waveI false (negI a)).bad) == ((negI (waveI false a)).bad)))) = true := (same (one q0).ns)
    have q4 : (((waveI true (negI a)).lo == (waveI true a).lo) && (((waveI true (negI a)).hi == (waveI true a).hi) && (((waveI true (negI a)).bad) == ((waveI true a).bad)))) = true := (same (one q0).nc)
    have q5 : (fineL [waveI false (pointI a.lo), waveI true (pointI a.lo)]) = true := (fl1 (one q0).ps (fl1 (one q0).pc rfl))
    have q6 : (decide (IntKind.i64.wrap ((waveI false (pointI a.lo)).hi - ((waveI false (pointI a.lo)).lo)) ≤ 64)) = true := (one q0).w1
    have q7 : (decide (IntKind.i64.wrap ((waveI true (pointI a.lo)).hi - ((waveI true (pointI a.lo)).lo)) ≤ 64)) = true := (one q0).w2
    have q8 : (decide (IntKind.i64.wrap ((waveI false a).hi - ((waveI false a).lo)) ≤ IntKind.i64.wrap (IntKind.i64.wrap (a.hi - a.lo) + 66))) = true := (one q0).w3
    have q9 : (decide (IntKind.i64.wrap ((waveI true a).hi - ((waveI true a).lo)) ≤ IntKind.i64.wrap (IntKind.i64.wrap (a.hi - a.lo) + 66))) = true := (one q0).w4
    exact wo0_leaf a  q0 q1 q2 q3 q4 q5 q6 q7 q8 q9
  | false =>
    exact wo1_leaf a  q0
theorem mt {a b : Iv} (h : (meetI a b).bad = false) : mtB a b = true := by unfold mtB; rw [h]; rfl
theorem ws0_run (a b : Iv) : runF P EL 1 4 [I a, I b] (.b false :: (.b false :: (.b false :: (.lit :: (.b false :: (.b true :: (.b true :: []))))))) =
  some (.bool true,
    [nP2 [.int .i64 (-4294967296), .int .i64 4294967296],
     iP2 [I a, I b],
     iP2 [I (makeI (-4294967296) 4294967296), I a],
     (!(holdsI (makeI (-4294967296) 4294967296) a)) = false,
     iP2 [I (makeI (-4294967296) 4294967296), I b],
     (!(holdsI (makeI (-4294967296) 4294967296) b)) = false,
     iP2 [I (makeI (-4294967296) 4294967296), I (addI a b)],
     (!(holdsI (makeI (-4294967296) 4294967296) (addI a b))) = false,
     iP1 [I a],
     iP1 [I b],
     iP1 [I (addI a b)],
     fineP [ivs [waveI false a, waveI true a, waveI false b, waveI true b, waveI false (addI a b), waveI true (addI a b)]],
     (!(fineL [waveI false a, waveI true a, waveI false b, waveI true b, waveI false (addI a b), waveI true (addI a b)])) = false,
     iP2 [I (waveI false a), I (waveI true b)],
     iP2 [I (waveI true a), I (waveI false b)],
     iP2 [I (mulI (waveI false a) (waveI true b)), I (mulI (waveI true a) (waveI false b))],
     iP2 [I (waveI false (addI a b)), I (addI (mulI (waveI false a) (waveI true b)) (mulI (waveI true a) (waveI false b)))],
     (mtB (waveI false (addI a b)) (addI (mulI (waveI false a) (waveI true b)) (mulI (waveI true a) (waveI false b)))) = true,
     iP2 [I (waveI true a), I (waveI true b)],
     iP2 [I (waveI false a), I (waveI false b)],
     iP2 [I (mulI (waveI true a) (waveI true b)), I (mulI (waveI false a) (waveI false b))],
     iP2 [I (waveI true (addI a b)), I (subI (mulI (waveI true a) (waveI true b)) (mulI (waveI false a) (waveI false b)))],
     (mtB (waveI true (addI a b)) (subI (mulI (waveI true a) (waveI true b)) (mulI (waveI false a) (waveI false b)))) = true,
     wakesP []]) := by kernel_rfl
theorem ws0_leaf (a b : Iv)  (q0 : (holdsI (makeI (-4294967296) 4294967296) a) = true) (q1 : (holdsI (makeI (-4294967296) 4294967296) b) = true) (q2 : (holdsI (makeI (-4294967296) 4294967296) (addI a b)) = true) (q3 : (fineL [waveI false a, waveI true a, waveI false b, waveI true b, waveI false (addI a b), waveI true (addI a b)]) = true) (q4 : (mtB (waveI false (addI a b)) (addI (mulI (waveI false a) (waveI true b)) (mulI (waveI true a) (waveI false b)))) = true) (q5 : (mtB (waveI true (addI a b)) (subI (mulI (waveI true a) (waveI true b)) (mulI (waveI false a) (waveI false b)))) = true) : Gives P 4 #[I a, I b] (.bool true) := by
  have R := ws0_run a b
  refine gives_of_run mo R (ps_cons (by unfold nP2 I64; omega) (ps_cons ⟨⟨_, rfl⟩, _, rfl⟩ (ps_cons ⟨⟨_, rfl⟩, _, rfl⟩ (ps_cons (neg_f q0) (ps_cons ⟨⟨_, rfl⟩, _, rfl⟩ (ps_cons (neg_f q1) (ps_cons ⟨⟨_, rfl⟩, _, rfl⟩ (ps_cons (neg_f q2) (ps_cons ⟨_, rfl⟩ (ps_cons ⟨_, rfl⟩ (ps_cons ⟨_, rfl⟩ (ps_cons (ivs_ok (by simp)) (ps_cons (neg_f q3) (ps_cons ⟨⟨_, rfl⟩, _, rfl⟩ (ps_cons ⟨⟨_, rfl⟩, _, rfl⟩ (ps_cons ⟨⟨_, rfl⟩, _, rfl⟩ (ps_cons ⟨⟨_, rfl⟩, _, rfl⟩ (ps_cons q4 (ps_cons ⟨⟨_, rfl⟩, _, rfl⟩ (ps_cons ⟨⟨_, rfl⟩, _, rfl⟩ (ps_cons ⟨⟨_, rfl⟩, _, rfl⟩ (ps_cons ⟨⟨_, rfl⟩, _, rfl⟩ (ps_cons q5 (ps_cons trivial ps_nil)))))))))))))))))))))))) ?_
  rfl
theorem ws1_run (a b : Iv) : runF P EL 1 4 [I a, I b] (.b true :: []) =
  some (.bool true,
    [nP2 [.int .i64 (-4294967296), .int .i64 4294967296],
     iP2 [I a, I b],
     iP2 [I (makeI (-4294967296) 4294967296), I a],
     (!(holdsI (makeI (-4294967296) 4294967296) a)) = true,
     wakesP []]) := by kernel_rfl
theorem ws1_leaf (a b : Iv)  (q0 : (holdsI (makeI (-4294967296) 4294967296) a) = false) : Gives P 4 #[I a, I b] (.bool true) := by
  have R := ws1_run a b
  refine gives_of_run mo R (ps_cons (by unfold nP2 I64; omega) (ps_cons ⟨⟨_, rfl⟩, _, rfl⟩ (ps_cons ⟨⟨_, rfl⟩, _, rfl⟩ (ps_cons (neg_t q0) (ps_cons trivial ps_nil))))) ?_
  rfl
theorem ws2_run (a b : Iv) : runF P EL 1 4 [I a, I b] (.b false :: (.b true :: [])) =
  some (.bool true,
    [nP2 [.int .i64 (-4294967296), .int .i64 4294967296],
     iP2 [I a, I b],
     iP2 [I (makeI (-4294967296) 4294967296), I a],
     (!(holdsI (makeI (-4294967296) 4294967296) a)) = false,
     iP2 [I (makeI (-4294967296) 4294967296), I b],
     (!(holdsI (makeI (-4294967296) 4294967296) b)) = true,
     wakesP []]) := by kernel_rfl
theorem ws2_leaf (a b : Iv)  (q0 : (holdsI (makeI (-4294967296) 4294967296) a) = true) (q1 : (holdsI (makeI (-4294967296) 4294967296) b) = false) : Gives P 4 #[I a, I b] (.bool true) := by
  have R := ws2_run a b
  refine gives_of_run mo R (ps_cons (by unfold nP2 I64; omega) (ps_cons ⟨⟨_, rfl⟩, _, rfl⟩ (ps_cons ⟨⟨_, rfl⟩, _, rfl⟩ (ps_cons (neg_f q0) (ps_cons ⟨⟨_, rfl⟩, _, rfl⟩ (ps_cons (neg_t q1) (ps_cons trivial ps_nil))))))) ?_
  rfl
theorem ws3_run (a b : Iv) : runF P EL 1 4 [I a, I b] (.b false :: (.b false :: (.b true :: []))) =
  some (.bool true,
    [nP2 [.int .i64 (-4294967296), .int .i64 4294967296],
     iP2 [I a, I b],
     iP2 [I (makeI (-4294967296) 4294967296), I a],
     (!(holdsI (makeI (-4294967296) 4294967296) a)) = false,
     iP2 [I (makeI (-4294967296) 4294967296), I b],
     (!(holdsI (makeI (-4294967296) 4294967296) b)) = false,
     iP2 [I (makeI (-4294967296) 4294967296), I (addI a b)],
     (!(holdsI (makeI (-4294967296) 4294967296) (addI a b))) = true,
     wakesP []]) := by kernel_rfl
theorem ws3_leaf (a b : Iv)  (q0 : (holdsI (makeI (-4294967296) 4294967296) a) = true) (q1 : (holdsI (makeI (-4294967296) 4294967296) b) = true) (q2 : (holdsI (makeI (-4294967296) 4294967296) (addI a b)) = false) : Gives P 4 #[I a, I b] (.bool true) := by
  have R := ws3_run a b
  refine gives_of_run mo R (ps_cons (by unfold nP2 I64; omega) (ps_cons ⟨⟨_, rfl⟩, _, rfl⟩ (ps_cons ⟨⟨_, rfl⟩, _, rfl⟩ (ps_cons (neg_f q0) (ps_cons ⟨⟨_, rfl⟩, _, rfl⟩ (ps_cons (neg_f q1) (ps_cons ⟨⟨_, rfl⟩, _, rfl⟩ (ps_cons (neg_t q2) (ps_cons trivial ps_nil))))))))) ?_
  rfl
theorem WaveSums_all (a b : Iv) : Gives P 4 #[I a, I b] (.bool true) := by
  cases q0 : (holdsI (makeI (-4294967296) 4294967296) a) with
  | true =>
    cases q1 : (holdsI (makeI (-4294967296) 4294967296) b) with
    | true =>
      cases q2 : (holdsI (makeI (-4294967296) 4294967296) (addI a b)) with
      | true =>
        have q3 : (fineL [waveI false a, waveI true a, waveI false b, waveI true b, waveI false (addI a b), waveI true (addI a b)]) = true := (fl1 (wave_facts false q0).f (fl1 (wave_facts true q0).f (fl1 (wave_facts false q1).f (fl1 (wave_facts true q1).f (fl1 (wave_facts false q2).f (fl1 (wave_facts true q2).f rfl))))))
        have q4 : (mtB (waveI false (addI a b)) (addI (mulI (waveI false a) (waveI true b)) (mulI (waveI true a) (waveI false b)))) = true := (mt (sums q0 q1 q2).1)
        have q5 : (mtB (waveI true (addI a b)) (subI (mulI (waveI true a) (waveI true b)) (mulI (waveI false a) (waveI false b)))) = true := (mt (sums q0 q1 q2).2)
        exact ws0_leaf a b  q0 q1 q2 q3 q4 q5
      | false =>
        exact ws3_leaf a b  q0 q1 q2
    | false =>
      exact ws2_leaf a b  q0 q1
  | false =>
    exact ws1_leaf a b  q0
end Go.Wv
