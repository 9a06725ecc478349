/-
  The law KeplerRises comes to true. Printed by keE.py.
-/
import Derived.Test.YthadbpnapbmppaaGreatDoorKeE
set_option maxRecDepth 100000
namespace Go.Ke
open Go Go.RowKit Go.Sx Go.Nm Go.Wd Go.Qt Go.Iv Go.An Go.Wv Go.Nv Go.Proofs

noncomputable def ER : Env P := ⟨⟨[kMay, kWakes] ++ kepC ++ R5.rf5C, [rFine]⟩, [], 20, []⟩
structure Ri (m w e : Int) : Prop where
  a : (soI m e 40).lo < (soI w e 40).hi
  b : (soI m e 40).lo ≤ IntKind.i64.wrap ((soI w e 40).lo + 1202)
  c : soI m 0 40 = ⟨IntKind.i64.wrap (m - 1), IntKind.i64.wrap (m + 1), false⟩
  d : holdsI (soI 0 e 40) (pointI 0) = true
  er : nrE m e = 0
  f : (soI m e 40).lo ≤ nrP m e
  g : nrP m e ≤ (soI m e 40).hi
theorem ri {m w e : Int} (h : mB m e = true) (k : mB w e = true) (hm : ¬ m > w) : Ri m w e := by
  have a := mB_iff.1 h
  have b := mB_iff.1 k
  have h0 : mB m 0 = true := mB_iff.2 ⟨a.1, a.2.1, by omega, by omega⟩
  have z0 : mB 0 e = true := mB_iff.2 ⟨by omega, by omega, a.2.2.1, a.2.2.2⟩
  have A := so40 h
  have B := so40 k
  have C := so40 h0
  have Z := so40 z0
  have N := nr h
  have mo := more a.1 (show m ≤ w by omega) b.2.1 a.2.2.1 a.2.2.2
  have ci := circle a.1 a.2.1
  have no := nought a.2.2.1 a.2.2.2
  have o := ends a.1 a.2.1 a.2.2.1 a.2.2.2 (i := 31) (k := 31) (Nat.le_refl _) (Nat.le_refl _)
  have l1 := A.l.a1
  have l2 := A.l.a2
  have u1 := B.l.a1
  have u2 := B.l.a2
  have z1 := Z.l.a1
  have z2 := Z.u.a2
  refine ⟨by rw [A.i, B.i]; exact mo.1, ?_, ?_, ?_, N.e, ?_, ?_⟩
  · rw [A.i, B.i]
    show (hv m e (-1) 31).1 ≤ IntKind.i64.wrap ((hv w e (-1) 31).1 + 1202)
    rw [Iv.wr (by omega) (by omega)]; exact mo.2
  · rw [C.i, ci.1, ci.2, Iv.wr (by omega) (by omega), Iv.wr (by omega) (by omega)]
  · rw [Z.i]
    have hp := hd_point (n := 0) (by decide) (by decide)
    have f : fine ⟨(hv 0 e (-1) 31).1, (hv 0 e 1 31).1, false⟩ = true := fine_iff.2 ⟨rfl, by show _ ≤ (hv 0 e (-1) 31).1; omega, by show (hv 0 e (-1) 31).1 ≤ (hv 0 e 1 31).1; omega, by show (hv 0 e 1 31).1 ≤ _; omega⟩
    unfold holdsI
    rw [fine2.2 ⟨f, hp.2⟩, hp.1]
    show (true && (decide ((hv 0 e (-1) 31).1 ≤ 0) && decide (0 ≤ (hv 0 e 1 31).1))) = true
    rw [decide_eq_true (by omega), decide_eq_true (by omega)]; rfl
  · rw [A.i, N.p]; show (hv m e (-1) 31).1 ≤ _; omega
  · rw [A.i, N.p]; show _ ≤ (hv m e 1 31).1; omega
theorem kr0_run (m w e : Int) : runF P ER 1 5 [.int .i64 m, .int .i64 w, .int .i64 e] (.b false :: (.b false :: (.b true :: []))) =
  some (.bool true,
    [i2P [.int .i64 m, .int .i64 e],
     (!(mB m e)) = false,
     i2P [.int .i64 w, .int .i64 e],
     (!(mB w e)) = false,
     (decide (m > w)) = true,
     wakesP []]) := by kernel_rfl
theorem kr0_leaf (m w e : Int) (hm : I64 m) (hw : I64 w) (he : I64 e) (q0 : (mB m e) = true) (q1 : (mB w e) = true) (q2 : (decide (m > w)) = true) : Gives P 5 #[.int .i64 m, .int .i64 w, .int .i64 e] (.bool true) := by
  have _u := And.intro hm (And.intro hw he)
  have R := kr0_run m w e
  refine gives_of_run mo R (ps_cons ⟨hm, he⟩ (ps_cons (neg_f q0) (ps_cons ⟨hw, he⟩ (ps_cons (neg_f q1) (ps_cons q2 (ps_cons trivial ps_nil)))))) ?_
  rfl
theorem kr1_run (m w e : Int) : runF P ER 1 5 [.int .i64 m, .int .i64 w, .int .i64 e] (.b true :: []) =
  some (.bool true,
    [i2P [.int .i64 m, .int .i64 e],
     (!(mB m e)) = true,
     wakesP []]) := by kernel_rfl
theorem kr1_leaf (m w e : Int) (hm : I64 m) (hw : I64 w) (he : I64 e) (q0 : (mB m e) = false) : Gives P 5 #[.int .i64 m, .int .i64 w, .int .i64 e] (.bool true) := by
  have _u := And.intro hm (And.intro hw he)
  have R := kr1_run m w e
  refine gives_of_run mo R (ps_cons ⟨hm, he⟩ (ps_cons (neg_t q0) (ps_cons trivial ps_nil))) ?_
  rfl
theorem kr2_run (m w e : Int) : runF P ER 1 5 [.int .i64 m, .int .i64 w, .int .i64 e] (.b false :: (.b true :: [])) =
  some (.bool true,
    [i2P [.int .i64 m, .int .i64 e],
     (!(mB m e)) = false,
     i2P [.int .i64 w, .int .i64 e],
     (!(mB w e)) = true,
     wakesP []]) := by kernel_rfl
theorem kr2_leaf (m w e : Int) (hm : I64 m) (hw : I64 w) (he : I64 e) (q0 : (mB m e) = true) (q1 : (mB w e) = false) : Gives P 5 #[.int .i64 m, .int .i64 w, .int .i64 e] (.bool true) := by
  have _u := And.intro hm (And.intro hw he)
  have R := kr2_run m w e
  refine gives_of_run mo R (ps_cons ⟨hm, he⟩ (ps_cons (neg_f q0) (ps_cons ⟨hw, he⟩ (ps_cons (neg_t q1) (ps_cons trivial ps_nil))))) ?_
  rfl
theorem kr3_run (m w e : Int) : runF P ER 1 5 [.int .i64 m, .int .i64 w, .int .i64 e] (.b false :: (.b false :: (.b false :: (.b true :: (.b true :: (.b true :: (.b true :: (.b true :: (.b true :: (.b true :: [])))))))))) =
  some (.bool true,
    [i2P [.int .i64 m, .int .i64 e],
     (!(mB m e)) = false,
     i2P [.int .i64 w, .int .i64 e],
     (!(mB w e)) = false,
     (decide (m > w)) = false,
     i3P [.int .i64 m, .int .i64 e, .int .i64 40],
     i3P [.int .i64 w, .int .i64 e, .int .i64 40],
     i3P [.int .i64 m, .int .i64 0, .int .i64 40],
     i3P [.int .i64 0, .int .i64 e, .int .i64 40],
     i2P [.int .i64 m, .int .i64 e],
     (decide ((soI m e 40).lo < (soI w e 40).hi)) = true,
     (decide ((soI m e 40).lo ≤ IntKind.i64.wrap ((soI w e 40).lo + 1202))) = true,
     (((soI m 0 40).lo == IntKind.i64.wrap (m - 1)) && (((soI m 0 40).hi == IntKind.i64.wrap (m + 1)) && (((soI m 0 40).bad) == false))) = true,
     nP1 [.int .i64 0],
     iP2 [I (soI 0 e 40), I (pointI 0)],
     (holdsI (soI 0 e 40) (pointI 0)) = true,
     (nrE m e == 0) = true,
     (decide ((soI m e 40).lo ≤ nrP m e)) = true,
     (decide (nrP m e ≤ (soI m e 40).hi)) = true,
     wakesP []]) := by kernel_rfl
theorem kr3_leaf (m w e : Int) (hm : I64 m) (hw : I64 w) (he : I64 e) (q0 : (mB m e) = true) (q1 : (mB w e) = true) (q2 : (decide (m > w)) = false) (q3 : (decide ((soI m e 40).lo < (soI w e 40).hi)) = true) (q4 : (decide ((soI m e 40).lo ≤ IntKind.i64.wrap ((soI w e 40).lo + 1202))) = true) (q5 : (((soI m 0 40).lo == IntKind.i64.wrap (m - 1)) && (((soI m 0 40).hi == IntKind.i64.wrap (m + 1)) && (((soI m 0 40).bad) == false))) = true) (q6 : (holdsI (soI 0 e 40) (pointI 0)) = true) (q7 : (nrE m e == 0) = true) (q8 : (decide ((soI m e 40).lo ≤ nrP m e)) = true) (q9 : (decide (nrP m e ≤ (soI m e 40).hi)) = true) : Gives P 5 #[.int .i64 m, .int .i64 w, .int .i64 e] (.bool true) := by
  have _u := And.intro hm (And.intro hw he)
  have R := kr3_run m w e
  refine gives_of_run mo R (ps_cons ⟨hm, he⟩ (ps_cons (neg_f q0) (ps_cons ⟨hw, he⟩ (ps_cons (neg_f q1) (ps_cons q2 (ps_cons ⟨hm, he, by unfold I64; decide⟩ (ps_cons ⟨hw, he, by unfold I64; decide⟩ (ps_cons ⟨hm, by unfold I64; decide, by unfold I64; decide⟩ (ps_cons ⟨by unfold I64; decide, he, by unfold I64; decide⟩ (ps_cons ⟨hm, he⟩ (ps_cons q3 (ps_cons q4 (ps_cons q5 (ps_cons (by unfold nP1 I64; decide) (ps_cons ⟨⟨_, rfl⟩, _, rfl⟩ (ps_cons q6 (ps_cons q7 (ps_cons q8 (ps_cons q9 (ps_cons trivial ps_nil)))))))))))))))))))) ?_
  rfl
theorem KeplerRises_all (m w e : Int) (hm : I64 m) (hw : I64 w) (he : I64 e) : Gives P 5 #[.int .i64 m, .int .i64 w, .int .i64 e] (.bool true) := by
  cases q0 : (mB m e) with
  | true =>
    cases q1 : (mB w e) with
    | true =>
      cases q2 : (decide (m > w)) with
      | true =>
        exact kr0_leaf m w e hm hw he q0 q1 q2
      | false =>
        have q3 : (decide ((soI m e 40).lo < (soI w e 40).hi)) = true := (decide_eq_true (ri q0 q1 (of_decide_eq_false q2)).a)
        have q4 : (decide ((soI m e 40).lo ≤ IntKind.i64.wrap ((soI w e 40).lo + 1202))) = true := (decide_eq_true (ri q0 q1 (of_decide_eq_false q2)).b)
        have q5 : (((soI m 0 40).lo == IntKind.i64.wrap (m - 1)) && (((soI m 0 40).hi == IntKind.i64.wrap (m + 1)) && (((soI m 0 40).bad) == false))) = true := (iv_is (ri q0 q1 (of_decide_eq_false q2)).c)
        have q6 : (holdsI (soI 0 e 40) (pointI 0)) = true := (ri q0 q1 (of_decide_eq_false q2)).d
        have q7 : (nrE m e == 0) = true := (bq (ri q0 q1 (of_decide_eq_false q2)).er)
        have q8 : (decide ((soI m e 40).lo ≤ nrP m e)) = true := (decide_eq_true (ri q0 q1 (of_decide_eq_false q2)).f)
        have q9 : (decide (nrP m e ≤ (soI m e 40).hi)) = true := (decide_eq_true (ri q0 q1 (of_decide_eq_false q2)).g)
        exact kr3_leaf m w e hm hw he q0 q1 q2 q3 q4 q5 q6 q7 q8 q9
    | false =>
      exact kr2_leaf m w e hm hw he q0 q1
  | false =>
    exact kr1_leaf m w e hm hw he q0
end Go.Ke
