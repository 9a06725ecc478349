/-
  The law KeplerHolds comes to true. Printed by keE.py.
-/
import Derived.Test.YthadbpnapbmppaaGreatDoorKeE
import Derived.Test.YthadbpnapbmppaaGreatDoorRf7
set_option maxRecDepth 100000
namespace Go.Ke
open Go Go.RowKit Go.Sx Go.Nm Go.Wd Go.Qt Go.Iv Go.An Go.Wv Go.Nv Go.Proofs

/-! ### gyreref06.Sign, the law's gap -/
def s6B (a : Iv) : Bool := fineL [a] && (decide (a.lo > 0) || (decide (a.hi < 0) || (a.lo == 0 && a.hi == 0)))
theorem s60_run (a : Iv) : runF P E0 1 21 [I a] (.lit :: (.b false :: (.b true :: []))) =
  some (.tuple #[.int .i64 1, .bool true],
    [fineP [ivs [a]],
     (!(fineL [a])) = false,
     (decide (a.lo > 0)) = true]) := by kernel_rfl
theorem s60_leaf (a : Iv)  (q0 : (fineL [a]) = true) (q1 : (decide (a.lo > 0)) = true) : Gives P 21 #[I a] (.tuple #[.int .i64 (signN a), .bool (s6B a)]) := by
  have R := s60_run a
  refine gives_of_run mo R (ps_cons (ivs_ok (by simp)) (ps_cons (neg_f q0) (ps_cons q1 ps_nil))) ?_
  unfold signN s6B
  rw [q0, q1]
  rw [cond_true, if_pos (of_decide_eq_true q1)]
  rfl
theorem s61_run (a : Iv) : runF P E0 1 21 [I a] (.lit :: (.b true :: [])) =
  some (.tuple #[.int .i64 0, .bool false],
    [fineP [ivs [a]],
     (!(fineL [a])) = true]) := by kernel_rfl
theorem s61_leaf (a : Iv)  (q0 : (fineL [a]) = false) : Gives P 21 #[I a] (.tuple #[.int .i64 (signN a), .bool (s6B a)]) := by
  have R := s61_run a
  refine gives_of_run mo R (ps_cons (ivs_ok (by simp)) (ps_cons (neg_t q0) ps_nil)) ?_
  unfold signN s6B
  rw [q0]
  rfl
theorem s62_run (a : Iv) : runF P E0 1 21 [I a] (.lit :: (.b false :: (.b false :: (.b true :: [])))) =
  some (.tuple #[.int .i64 (-1), .bool true],
    [fineP [ivs [a]],
     (!(fineL [a])) = false,
     (decide (a.lo > 0)) = false,
     (decide (a.hi < 0)) = true]) := by kernel_rfl
theorem s62_leaf (a : Iv)  (q0 : (fineL [a]) = true) (q1 : (decide (a.lo > 0)) = false) (q2 : (decide (a.hi < 0)) = true) : Gives P 21 #[I a] (.tuple #[.int .i64 (signN a), .bool (s6B a)]) := by
  have R := s62_run a
  refine gives_of_run mo R (ps_cons (ivs_ok (by simp)) (ps_cons (neg_f q0) (ps_cons q1 (ps_cons q2 ps_nil)))) ?_
  unfold signN s6B
  rw [q0, q1, q2]
  rw [cond_true, if_neg (of_decide_eq_false q1)]
  rw [if_pos (of_decide_eq_true q2)]
  rfl
theorem s63_run (a : Iv) : runF P E0 1 21 [I a] (.lit :: (.b false :: (.b false :: (.b false :: (.b true :: []))))) =
  some (.tuple #[.int .i64 0, .bool (a.hi == 0)],
    [fineP [ivs [a]],
     (!(fineL [a])) = false,
     (decide (a.lo > 0)) = false,
     (decide (a.hi < 0)) = false,
     (a.lo == 0) = true]) := by kernel_rfl
theorem s63_leaf (a : Iv)  (q0 : (fineL [a]) = true) (q1 : (decide (a.lo > 0)) = false) (q2 : (decide (a.hi < 0)) = false) (q3 : (a.lo == 0) = true) : Gives P 21 #[I a] (.tuple #[.int .i64 (signN a), .bool (s6B a)]) := by
  have R := s63_run a
  refine gives_of_run mo R (ps_cons (ivs_ok (by simp)) (ps_cons (neg_f q0) (ps_cons q1 (ps_cons q2 (ps_cons q3 ps_nil))))) ?_
  unfold signN s6B
  rw [q0, q1, q2]
  rw [cond_true, if_neg (of_decide_eq_false q1)]
  rw [if_neg (of_decide_eq_false q2)]
  rw [q3]
  rfl
theorem s64_run (a : Iv) : runF P E0 1 21 [I a] (.lit :: (.b false :: (.b false :: (.b false :: (.b false :: []))))) =
  some (.tuple #[.int .i64 0, .bool false],
    [fineP [ivs [a]],
     (!(fineL [a])) = false,
     (decide (a.lo > 0)) = false,
     (decide (a.hi < 0)) = false,
     (a.lo == 0) = false]) := by kernel_rfl
theorem s64_leaf (a : Iv)  (q0 : (fineL [a]) = true) (q1 : (decide (a.lo > 0)) = false) (q2 : (decide (a.hi < 0)) = false) (q3 : (a.lo == 0) = false) : Gives P 21 #[I a] (.tuple #[.int .i64 (signN a), .bool (s6B a)]) := by
  have R := s64_run a
  refine gives_of_run mo R (ps_cons (ivs_ok (by simp)) (ps_cons (neg_f q0) (ps_cons q1 (ps_cons q2 (ps_cons q3 ps_nil))))) ?_
  unfold signN s6B
  rw [q0, q1, q2]
  rw [cond_true, if_neg (of_decide_eq_false q1)]
  rw [if_neg (of_decide_eq_false q2)]
  rw [q3]
  rfl
theorem s6_gives (args : List Value) (h : iP1 args) : Gives P 21 args.toArray ((one1 fun a => .tuple #[.int .i64 (signN a), .bool (s6B a)]) args) := by
  unfold iP1 at h
  split at h
  · obtain ⟨a, rfl⟩ := h
    show Gives P _ #[I a] (.tuple #[.int .i64 (signN a), .bool (s6B a)])
    rcases Bool.eq_false_or_eq_true (fineL [a]) with q0 | q0
    · rcases Bool.eq_false_or_eq_true (decide (a.lo > 0)) with q1 | q1
      · exact s60_leaf a  q0 q1
      · rcases Bool.eq_false_or_eq_true (decide (a.hi < 0)) with q2 | q2
        · exact s62_leaf a  q0 q1 q2
        · rcases Bool.eq_false_or_eq_true (a.lo == 0) with q3 | q3
          · exact s63_leaf a  q0 q1 q2 q3
          · exact s64_leaf a  q0 q1 q2 q3
    · exact s61_leaf a  q0
  · exact h.elim
noncomputable def cSign6 : Ctr P := ⟨21, iP1, one1 fun a => .tuple #[.int .i64 (signN a), .bool (s6B a)], s6_gives⟩
def g3P : List Value → Prop
  | [.int .i64 m, .int .i64 e, .int .i64 p] => May m e p
  | _ => False
def g3V : List Value → Value
  | [.int _ m, .int _ e, .int _ p] => I (gapI m e p)
  | _ => undef
noncomputable def EP : Env P := ⟨⟨R7.cSin7 :: R5.rf5C, []⟩, [], 20, []⟩
theorem lg0_run (m e p : Int) : runF P EP 1 22 [.int .i64 m, .int .i64 e, .int .i64 p] [] =
  some (I (subI (subI (pointI p) (mulI (pointI e) (waveI false (pointI p)))) (pointI m)),
    [nP1 [.int .i64 e],
     nP1 [.int .i64 p],
     R7.sc7P [I (pointI p)],
     iP2 [I (pointI e), I (waveI false (pointI p))],
     nP1 [.int .i64 p],
     iP2 [I (pointI p), I (mulI (pointI e) (waveI false (pointI p)))],
     nP1 [.int .i64 m],
     iP2 [I (subI (pointI p) (mulI (pointI e) (waveI false (pointI p)))), I (pointI m)]]) := by kernel_rfl
theorem lg0_leaf (m e p : Int) (M : May m e p)  : Gives P 22 #[.int .i64 m, .int .i64 e, .int .i64 p] (I (gapI m e p)) := by
  have R := lg0_run m e p
  refine gives_of_run mo R (ps_cons (by have := M.m1; have := M.m2; have := M.e1; have := M.e2; have := M.p1; have := M.p2; unfold nP1 I64; omega) (ps_cons (by have := M.m1; have := M.m2; have := M.e1; have := M.e2; have := M.p1; have := M.p2; unfold nP1 I64; omega) (ps_cons ⟨_, rfl, point_far (n := p) (by have := M.p1; omega) (by have := M.p2; omega)⟩ (ps_cons ⟨⟨_, rfl⟩, _, rfl⟩ (ps_cons (by have := M.m1; have := M.m2; have := M.e1; have := M.e2; have := M.p1; have := M.p2; unfold nP1 I64; omega) (ps_cons ⟨⟨_, rfl⟩, _, rfl⟩ (ps_cons (by have := M.m1; have := M.m2; have := M.e1; have := M.e2; have := M.p1; have := M.p2; unfold nP1 I64; omega) (ps_cons ⟨⟨_, rfl⟩, _, rfl⟩ ps_nil)))))))) ?_
  rfl
theorem lg_gives (args : List Value) (h : g3P args) : Gives P 22 args.toArray ((g3V) args) := by
  unfold g3P at h
  split at h
  · rename_i m e p
    have M := h
    show Gives P _ #[.int .i64 m, .int .i64 e, .int .i64 p] (I (gapI m e p))
    exact lg0_leaf m e p M 
  · exact h.elim
noncomputable def cLgap : Ctr P := ⟨22, g3P, g3V, lg_gives⟩
noncomputable def EF : Env P := ⟨⟨[kMay, kWakes, cLgap, cSign6] ++ kepC ++ R5.rf5C, [rFine]⟩, [], 20, []⟩
structure Kh (m e f : Int) : Prop where
  o : ¬ (soI m e f).lo ≥ (soI m e f).hi
  b : (soI m e f).bad = false
  n : soN m e f = IntKind.i64.wrap (2 * (mn f 31))
  l : ¬ (soI m e f).lo < IntKind.i64.wrap (m - 1073741824)
  u : ¬ (soI m e f).hi > IntKind.i64.wrap (m + 1073741824)
  er : (soE m e f == 0) = decide (f ≥ 31)
  e2 : (soE m e f != 0) = true → soE m e f = 200
  M1 : May m e (soI m e f).lo
  M2 : May m e (soI m e f).hi
  s1 : s6B (gapI m e ((soI m e f).lo)) = true
  s2 : s6B (gapI m e ((soI m e f).hi)) = true
  g1 : signN (gapI m e ((soI m e f).lo)) = -1
  g2 : signN (gapI m e ((soI m e f).hi)) = 1
  p : gpE m e ((soI m e f).lo) = 0
  q : gpI m e ((soI m e f).lo) = gapI m e ((soI m e f).lo)
  i : I64 (soI m e f).lo
theorem s6_ok {m e p : Int} (M : May m e p) (h : sg m e p = 1 ∨ sg m e p = -1) : s6B (gapI m e p) = true := by
  have c := sg_cases M
  unfold s6B
  rw [fine1, (gp M).f]
  rcases h with h | h
  · rw [decide_eq_true (c.1.1 h)]; rfl
  · rw [decide_eq_true (c.2.1 h)]; simp
theorem kh {m e f : Int} (h : mB m e = true) (h1 : ¬ f < 0) (h2 : ¬ f > 40) : Kh m e f := by
  have a := mB_iff.1 h
  have S := so h (f := f) (fB_iff.2 ⟨by omega, by omega⟩)
  have l1 := S.l.a1
  have l2 := S.l.a2
  have u1 := S.u.a1
  have u2 := S.u.a2
  have o := ends a.1 a.2.1 a.2.2.1 a.2.2.2 S.k31 S.k31
  have el : (soI m e f).lo = (hv m e (-1) (mn f 31).toNat).1 := by rw [S.i]
  have eu : (soI m e f).hi = (hv m e 1 (mn f 31).toNat).1 := by rw [S.i]
  obtain ⟨bl, gl, gle⟩ := gp_of h l1 l2
  obtain ⟨bu, gu, gue⟩ := gp_of h u1 u2
  have M1 := may_of h bl
  have M2 := may_of h bu
  have ee := S.ee
  rw [← el] at l1 l2 o bl gl gle M1
  rw [← eu] at u1 u2 o bu M2
  have sl := S.l.s
  have su := S.u.s
  rw [← el] at sl
  rw [← eu] at su
  refine ⟨by omega, by rw [S.i], ?_, ?_, ?_, ?_, ?_, M1, M2, s6_ok M1 (.inr sl), s6_ok M2 (.inl su), sl, su, gle, gl, by unfold I64; omega⟩
  · rw [S.n, S.kk]; unfold mn; split <;> (rw [Iv.wr (by omega) (by omega)])
  · rw [Iv.wr (by omega) (by omega)]; omega
  · rw [Iv.wr (by omega) (by omega)]; omega
  · rw [ee]; cases decide (f ≥ 31) <;> rfl
  · rw [ee]; cases decide (f ≥ 31) with
    | true => intro h; cases h
    | false => intro _; rfl
theorem kh0_run (m e f : Int) : runF P EF 1 4 [.int .i64 m, .int .i64 e, .int .i64 f] (.b false :: (.b true :: [])) =
  some (.bool true,
    [i2P [.int .i64 m, .int .i64 e],
     (!(mB m e)) = false,
     (decide (f < 0)) = true,
     wakesP []]) := by kernel_rfl
theorem kh0_leaf (m e f : Int) (hm : I64 m) (he : I64 e) (hf : I64 f) (q0 : (mB m e) = true) (q1 : (decide (f < 0)) = true) : Gives P 4 #[.int .i64 m, .int .i64 e, .int .i64 f] (.bool true) := by
  have _u := And.intro hm (And.intro he hf)
  have R := kh0_run m e f
  refine gives_of_run mo R (ps_cons ⟨hm, he⟩ (ps_cons (neg_f q0) (ps_cons q1 (ps_cons trivial ps_nil)))) ?_
  rfl
theorem kh1_run (m e f : Int) : runF P EF 1 4 [.int .i64 m, .int .i64 e, .int .i64 f] (.b true :: []) =
  some (.bool true,
    [i2P [.int .i64 m, .int .i64 e],
     (!(mB m e)) = true,
     wakesP []]) := by kernel_rfl
theorem kh1_leaf (m e f : Int) (hm : I64 m) (he : I64 e) (hf : I64 f) (q0 : (mB m e) = false) : Gives P 4 #[.int .i64 m, .int .i64 e, .int .i64 f] (.bool true) := by
  have _u := And.intro hm (And.intro he hf)
  have R := kh1_run m e f
  refine gives_of_run mo R (ps_cons ⟨hm, he⟩ (ps_cons (neg_t q0) (ps_cons trivial ps_nil))) ?_
  rfl
theorem kh2_run (m e f : Int) : runF P EF 1 4 [.int .i64 m, .int .i64 e, .int .i64 f] (.b false :: (.b false :: (.b true :: []))) =
  some (.bool true,
    [i2P [.int .i64 m, .int .i64 e],
     (!(mB m e)) = false,
     (decide (f < 0)) = false,
     (decide (f > 40)) = true,
     wakesP []]) := by kernel_rfl
theorem kh2_leaf (m e f : Int) (hm : I64 m) (he : I64 e) (hf : I64 f) (q0 : (mB m e) = true) (q1 : (decide (f < 0)) = false) (q2 : (decide (f > 40)) = true) : Gives P 4 #[.int .i64 m, .int .i64 e, .int .i64 f] (.bool true) := by
  have _u := And.intro hm (And.intro he hf)
  have R := kh2_run m e f
  refine gives_of_run mo R (ps_cons ⟨hm, he⟩ (ps_cons (neg_f q0) (ps_cons q1 (ps_cons q2 (ps_cons trivial ps_nil))))) ?_
  rfl
theorem kh3_run (m e f : Int) : runF P EF 1 4 [.int .i64 m, .int .i64 e, .int .i64 f] (.b false :: (.b false :: (.b false :: (.b false :: (.b false :: (.b false :: (.b false :: (.b false :: (.b false :: (.b true :: (.b false :: (.b true :: (.b true :: (.b true :: (.b true :: (.b true :: (.b true :: []))))))))))))))))) =
  some (.bool true,
    [i2P [.int .i64 m, .int .i64 e],
     (!(mB m e)) = false,
     (decide (f < 0)) = false,
     (decide (f > 40)) = false,
     i3P [.int .i64 m, .int .i64 e, .int .i64 f],
     (decide ((soI m e f).lo ≥ (soI m e f).hi)) = false,
     ((soI m e f).bad) = false,
     (soN m e f != IntKind.i64.wrap (2 * (mn f 31))) = false,
     (decide ((soI m e f).lo < IntKind.i64.wrap (m - 1073741824))) = false,
     (decide ((soI m e f).hi > IntKind.i64.wrap (m + 1073741824))) = false,
     ((soE m e f == 0) != (decide (f ≥ 31))) = false,
     (soE m e f != 0) = true,
     (soE m e f != 200) = false,
     g3P [.int .i64 m, .int .i64 e, .int .i64 ((soI m e f).lo)],
     iP1 [I (gapI m e ((soI m e f).lo))],
     g3P [.int .i64 m, .int .i64 e, .int .i64 ((soI m e f).hi)],
     iP1 [I (gapI m e ((soI m e f).hi))],
     i3P [.int .i64 m, .int .i64 e, .int .i64 ((soI m e f).lo)],
     (s6B (gapI m e ((soI m e f).lo))) = true,
     (s6B (gapI m e ((soI m e f).hi))) = true,
     (signN (gapI m e ((soI m e f).lo)) == -1) = true,
     (signN (gapI m e ((soI m e f).hi)) == 1) = true,
     (gpE m e ((soI m e f).lo) == 0) = true,
     g3P [.int .i64 m, .int .i64 e, .int .i64 ((soI m e f).lo)],
     (((gpI m e ((soI m e f).lo)).lo == (gapI m e ((soI m e f).lo)).lo) && (((gpI m e ((soI m e f).lo)).hi == (gapI m e ((soI m e f).lo)).hi) && (((gpI m e ((soI m e f).lo)).bad) == ((gapI m e ((soI m e f).lo)).bad)))) = true,
     wakesP []]) := by kernel_rfl
theorem kh3_leaf (m e f : Int) (hm : I64 m) (he : I64 e) (hf : I64 f) (q0 : (mB m e) = true) (q1 : (decide (f < 0)) = false) (q2 : (decide (f > 40)) = false) (q3 : (decide ((soI m e f).lo ≥ (soI m e f).hi)) = false) (q4 : ((soI m e f).bad) = false) (q5 : (soN m e f != IntKind.i64.wrap (2 * (mn f 31))) = false) (q6 : (decide ((soI m e f).lo < IntKind.i64.wrap (m - 1073741824))) = false) (q7 : (decide ((soI m e f).hi > IntKind.i64.wrap (m + 1073741824))) = false) (q8 : ((soE m e f == 0) != (decide (f ≥ 31))) = false) (q9 : (soE m e f != 0) = true) (q10 : (soE m e f != 200) = false) (q11 : (s6B (gapI m e ((soI m e f).lo))) = true) (q12 : (s6B (gapI m e ((soI m e f).hi))) = true) (q13 : (signN (gapI m e ((soI m e f).lo)) == -1) = true) (q14 : (signN (gapI m e ((soI m e f).hi)) == 1) = true) (q15 : (gpE m e ((soI m e f).lo) == 0) = true) (q16 : (((gpI m e ((soI m e f).lo)).lo == (gapI m e ((soI m e f).lo)).lo) && (((gpI m e ((soI m e f).lo)).hi == (gapI m e ((soI m e f).lo)).hi) && (((gpI m e ((soI m e f).lo)).bad) == ((gapI m e ((soI m e f).lo)).bad)))) = true) : Gives P 4 #[.int .i64 m, .int .i64 e, .int .i64 f] (.bool true) := by
  have _u := And.intro hm (And.intro he hf)
  have R := kh3_run m e f
  refine gives_of_run mo R (ps_cons ⟨hm, he⟩ (ps_cons (neg_f q0) (ps_cons q1 (ps_cons q2 (ps_cons ⟨hm, he, hf⟩ (ps_cons q3 (ps_cons q4 (ps_cons q5 (ps_cons q6 (ps_cons q7 (ps_cons q8 (ps_cons q9 (ps_cons q10 (ps_cons (kh q0 (of_decide_eq_false q1) (of_decide_eq_false q2)).M1 (ps_cons ⟨_, rfl⟩ (ps_cons (kh q0 (of_decide_eq_false q1) (of_decide_eq_false q2)).M2 (ps_cons ⟨_, rfl⟩ (ps_cons ⟨hm, he, (kh q0 (of_decide_eq_false q1) (of_decide_eq_false q2)).i⟩ (ps_cons q11 (ps_cons q12 (ps_cons q13 (ps_cons q14 (ps_cons q15 (ps_cons (kh q0 (of_decide_eq_false q1) (of_decide_eq_false q2)).M1 (ps_cons q16 (ps_cons trivial ps_nil)))))))))))))))))))))))))) ?_
  rfl
theorem kh4_run (m e f : Int) : runF P EF 1 4 [.int .i64 m, .int .i64 e, .int .i64 f] (.b false :: (.b false :: (.b false :: (.b false :: (.b false :: (.b false :: (.b false :: (.b false :: (.b false :: (.b false :: (.lit :: (.b true :: (.b true :: (.b true :: (.b true :: (.b true :: (.b true :: []))))))))))))))))) =
  some (.bool true,
    [i2P [.int .i64 m, .int .i64 e],
     (!(mB m e)) = false,
     (decide (f < 0)) = false,
     (decide (f > 40)) = false,
     i3P [.int .i64 m, .int .i64 e, .int .i64 f],
     (decide ((soI m e f).lo ≥ (soI m e f).hi)) = false,
     ((soI m e f).bad) = false,
     (soN m e f != IntKind.i64.wrap (2 * (mn f 31))) = false,
     (decide ((soI m e f).lo < IntKind.i64.wrap (m - 1073741824))) = false,
     (decide ((soI m e f).hi > IntKind.i64.wrap (m + 1073741824))) = false,
     ((soE m e f == 0) != (decide (f ≥ 31))) = false,
     (soE m e f != 0) = false,
     g3P [.int .i64 m, .int .i64 e, .int .i64 ((soI m e f).lo)],
     iP1 [I (gapI m e ((soI m e f).lo))],
     g3P [.int .i64 m, .int .i64 e, .int .i64 ((soI m e f).hi)],
     iP1 [I (gapI m e ((soI m e f).hi))],
     i3P [.int .i64 m, .int .i64 e, .int .i64 ((soI m e f).lo)],
     (s6B (gapI m e ((soI m e f).lo))) = true,
     (s6B (gapI m e ((soI m e f).hi))) = true,
     (signN (gapI m e ((soI m e f).lo)) == -1) = true,
     (signN (gapI m e ((soI m e f).hi)) == 1) = true,
     (gpE m e ((soI m e f).lo) == 0) = true,
     g3P [.int .i64 m, .int .i64 e, .int .i64 ((soI m e f).lo)],
     (((gpI m e ((soI m e f).lo)).lo == (gapI m e ((soI m e f).lo)).lo) && (((gpI m e ((soI m e f).lo)).hi == (gapI m e ((soI m e f).lo)).hi) && (((gpI m e ((soI m e f).lo)).bad) == ((gapI m e ((soI m e f).lo)).bad)))) = true,
     wakesP []]) := by kernel_rfl
theorem kh4_leaf (m e f : Int) (hm : I64 m) (he : I64 e) (hf : I64 f) (q0 : (mB m e) = true) (q1 : (decide (f < 0)) = false) (q2 : (decide (f > 40)) = false) (q3 : (decide ((soI m e f).lo ≥ (soI m e f).hi)) = false) (q4 : ((soI m e f).bad) = false) (q5 : (soN m e f != IntKind.i64.wrap (2 * (mn f 31))) = false) (q6 : (decide ((soI m e f).lo < IntKind.i64.wrap (m - 1073741824))) = false) (q7 : (decide ((soI m e f).hi > IntKind.i64.wrap (m + 1073741824))) = false) (q8 : ((soE m e f == 0) != (decide (f ≥ 31))) = false) (q9 : (soE m e f != 0) = false) (q10 : (s6B (gapI m e ((soI m e f).lo))) = true) (q11 : (s6B (gapI m e ((soI m e f).hi))) = true) (q12 : (signN (gapI m e ((soI m e f).lo)) == -1) = true) (q13 : (signN (gapI m e ((soI m e f).hi)) == 1) = true) (q14 : (gpE m e ((soI m e f).lo) == 0) = true) (q15 : (((gpI m e ((soI m e f).lo)).lo == (gapI m e ((soI m e f).lo)).lo) && (((gpI m e ((soI m e f).lo)).hi == (gapI m e ((soI m e f).lo)).hi) && (((gpI m e ((soI m e f).lo)).bad) == ((gapI m e ((soI m e f).lo)).bad)))) = true) : Gives P 4 #[.int .i64 m, .int .i64 e, .int .i64 f] (.bool true) := by
  have _u := And.intro hm (And.intro he hf)
  have R := kh4_run m e f
  refine gives_of_run mo R (ps_cons ⟨hm, he⟩ (ps_cons (neg_f q0) (ps_cons q1 (ps_cons q2 (ps_cons ⟨hm, he, hf⟩ (ps_cons q3 (ps_cons q4 (ps_cons q5 (ps_cons q6 (ps_cons q7 (ps_cons q8 (ps_cons q9 (ps_cons (kh q0 (of_decide_eq_false q1) (of_decide_eq_false q2)).M1 (ps_cons ⟨_, rfl⟩ (ps_cons (kh q0 (of_decide_eq_false q1) (of_decide_eq_false q2)).M2 (ps_cons ⟨_, rfl⟩ (ps_cons ⟨hm, he, (kh q0 (of_decide_eq_false q1) (of_decide_eq_false q2)).i⟩ (ps_cons q10 (ps_cons q11 (ps_cons q12 (ps_cons q13 (ps_cons q14 (ps_cons (kh q0 (of_decide_eq_false q1) (of_decide_eq_false q2)).M1 (ps_cons q15 (ps_cons trivial ps_nil))))))))))))))))))))))))) ?_
  rfl
theorem KeplerHolds_all (m e f : Int) (hm : I64 m) (he : I64 e) (hf : I64 f) : Gives P 4 #[.int .i64 m, .int .i64 e, .int .i64 f] (.bool true) := by
  cases q0 : (mB m e) with
  | true =>
    cases q1 : (decide (f < 0)) with
    | true =>
      exact kh0_leaf m e f hm he hf q0 q1
    | false =>
      cases q2 : (decide (f > 40)) with
      | true =>
        exact kh2_leaf m e f hm he hf q0 q1 q2
      | false =>
        have q3 : (decide ((soI m e f).lo ≥ (soI m e f).hi)) = false := (decide_eq_false (kh q0 (of_decide_eq_false q1) (of_decide_eq_false q2)).o)
        have q4 : ((soI m e f).bad) = false := (kh q0 (of_decide_eq_false q1) (of_decide_eq_false q2)).b
        have q5 : (soN m e f != IntKind.i64.wrap (2 * (mn f 31))) = false := (bn (kh q0 (of_decide_eq_false q1) (of_decide_eq_false q2)).n)
        have q6 : (decide ((soI m e f).lo < IntKind.i64.wrap (m - 1073741824))) = false := (decide_eq_false (kh q0 (of_decide_eq_false q1) (of_decide_eq_false q2)).l)
        have q7 : (decide ((soI m e f).hi > IntKind.i64.wrap (m + 1073741824))) = false := (decide_eq_false (kh q0 (of_decide_eq_false q1) (of_decide_eq_false q2)).u)
        have q8 : ((soE m e f == 0) != (decide (f ≥ 31))) = false := (by rw [(kh q0 (of_decide_eq_false q1) (of_decide_eq_false q2)).er]; simp)
        cases q9 : (soE m e f != 0) with
        | true =>
          have q10 : (soE m e f != 200) = false := (bn ((kh q0 (of_decide_eq_false q1) (of_decide_eq_false q2)).e2 q9))
          have q11 : (s6B (gapI m e ((soI m e f).lo))) = true := (kh q0 (of_decide_eq_false q1) (of_decide_eq_false q2)).s1
          have q12 : (s6B (gapI m e ((soI m e f).hi))) = true := (kh q0 (of_decide_eq_false q1) (of_decide_eq_false q2)).s2
          have q13 : (signN (gapI m e ((soI m e f).lo)) == -1) = true := (bq (kh q0 (of_decide_eq_false q1) (of_decide_eq_false q2)).g1)
          have q14 : (signN (gapI m e ((soI m e f).hi)) == 1) = true := (bq (kh q0 (of_decide_eq_false q1) (of_decide_eq_false q2)).g2)
          have q15 : (gpE m e ((soI m e f).lo) == 0) = true := (bq (kh q0 (of_decide_eq_false q1) (of_decide_eq_false q2)).p)
          have q16 : (((gpI m e ((soI m e f).lo)).lo == (gapI m e ((soI m e f).lo)).lo) && (((gpI m e ((soI m e f).lo)).hi == (gapI m e ((soI m e f).lo)).hi) && (((gpI m e ((soI m e f).lo)).bad) == ((gapI m e ((soI m e f).lo)).bad)))) = true := (iv_eq (kh q0 (of_decide_eq_false q1) (of_decide_eq_false q2)).q)
          exact kh3_leaf m e f hm he hf q0 q1 q2 q3 q4 q5 q6 q7 q8 q9 q10 q11 q12 q13 q14 q15 q16
        | false =>
          have q10 : (s6B (gapI m e ((soI m e f).lo))) = true := (kh q0 (of_decide_eq_false q1) (of_decide_eq_false q2)).s1
          have q11 : (s6B (gapI m e ((soI m e f).hi))) = true := (kh q0 (of_decide_eq_false q1) (of_decide_eq_false q2)).s2
          have q12 : (signN (gapI m e ((soI m e f).lo)) == -1) = true := (bq (kh q0 (of_decide_eq_false q1) (of_decide_eq_false q2)).g1)
          have q13 : (signN (gapI m e ((soI m e f).hi)) == 1) = true := (bq (kh q0 (of_decide_eq_false q1) (of_decide_eq_false q2)).g2)
          have q14 : (gpE m e ((soI m e f).lo) == 0) = true := (bq (kh q0 (of_decide_eq_false q1) (of_decide_eq_false q2)).p)
          have q15 : (((gpI m e ((soI m e f).lo)).lo == (gapI m e ((soI m e f).lo)).lo) && (((gpI m e ((soI m e f).lo)).hi == (gapI m e ((soI m e f).lo)).hi) && (((gpI m e ((soI m e f).lo)).bad) == ((gapI m e ((soI m e f).lo)).bad)))) = true := (iv_eq (kh q0 (of_decide_eq_false q1) (of_decide_eq_false q2)).q)
          exact kh4_leaf m e f hm he hf q0 q1 q2 q3 q4 q5 q6 q7 q8 q9 q10 q11 q12 q13 q14 q15
  | false =>
    exact kh1_leaf m e f hm he hf q0
end Go.Ke
