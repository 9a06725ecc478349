/-
 Contracts of gyreref21. Printed by orC.py.
-/
import Derived.Test.YtekplphjbngabaaGreatDoorOrF
import Derived.Test.YtekplphjbngabaaGreatDoorKeT
import Derived.Test.YtekplphjbngabaaGreatDoorRf6b
set_option maxRecDepth 100000
namespace Go.Or
open Go Go.RowKit Go.Sx Go.Nm Go.Wd Go.Qt Go.Iv Go.An Go.Wv Go.Nv Go.Ke Go.Proofs
theorem whR_alt {i : Iv} (f : fine i = true) : IntKind.i64.wrap ((IntKind.i64.wrap (IntKind.i64.wrap (mx (mx (IntKind.i64.wrap (IntKind.i64.wrap ((Qt.iv (IntKind.i64.wrap (i.lo + i.hi)) 1 2147483648) * 1073741824) - i.lo)) (IntKind.i64.wrap (i.hi - (IntKind.i64.wrap ((Qt.iv (IntKind.i64.wrap (i.lo + i.hi)) 1 2147483648) * 1073741824))))) 0 + 1073741824) - 1)).tdiv 1073741824) = whR i := by
 have w := wh f
 have b := w.b
 have l := w.l
 have u := w.u
 have r0 := w.r0
 have r1 := w.r1
 have r2 := w.r2
 have r3 := w.r3
 have ri := fine_iff.1 f
 have en : Qt.iv (IntKind.i64.wrap (i.lo + i.hi)) 1 2147483648 = whN i := by
  unfold whN nW; rw [fine1, f]; rfl
 rw [en, Iv.wr (n := whN i * 1073741824) (by omega) (by omega), Iv.wr (n := whN i * 1073741824 - i.lo) (by omega) (by omega), Iv.wr (n := i.hi - whN i * 1073741824) (by omega) (by omega)]
 have m1 : whN i * 1073741824 - i.lo ≤ mx (mx (whN i * 1073741824 - i.lo) (i.hi - whN i * 1073741824)) 0 ∧ i.hi - whN i * 1073741824 ≤ mx (mx (whN i * 1073741824 - i.lo) (i.hi - whN i * 1073741824)) 0 ∧ 0 ≤ mx (mx (whN i * 1073741824 - i.lo) (i.hi - whN i * 1073741824)) 0 ∧ (mx (mx (whN i * 1073741824 - i.lo) (i.hi - whN i * 1073741824)) 0 = whN i * 1073741824 - i.lo ∨ mx (mx (whN i * 1073741824 - i.lo) (i.hi - whN i * 1073741824)) 0 = i.hi - whN i * 1073741824 ∨ mx (mx (whN i * 1073741824 - i.lo) (i.hi - whN i * 1073741824)) 0 = 0) := by
  unfold mx
  split <;> split <;> omega
 generalize mx (mx (whN i * 1073741824 - i.lo) (i.hi - whN i * 1073741824)) 0 = y at *
 rw [Iv.wr (n := y + 1073741824) (by omega) (by omega), Iv.wr (n := y + 1073741824 - 1) (by omega) (by omega), Int.tdiv_eq_ediv_of_nonneg (by omega), Iv.wr (by omega) (by omega)]
 omega
theorem whR_no {i : Iv} (f : fineL [i] = false) : whN i = 0 ∧ whR i = 0 := by unfold whN whR; rw [f]; exact ⟨rfl, rfl⟩
theorem whR_0 (i : Iv) : 0 ≤ whR i := by
 cases f : fineL [i] with
 | true => exact (wh (fine1 ▸ f)).r0
 | false => rw [(whR_no f).2]; decide
theorem soE_0 (e : Int) : (soE 0 e 0 == 2) = !mB 0 e := by
 unfold soE
 cases mB 0 e <;> rfl
noncomputable def TS : Env P := ⟨⟨rSolve :: R6.cSq6 :: R6.cR6 :: R5.rf5C, [rFine]⟩, [], 20, []⟩
theorem ts0_leaf (e : Int) (he : I64 e) (q0 : (soE 0 e 0 == 2) = true) : Gives P 10 #[.int .i64 e] (.tuple #[I (smI e), .int .i64 (smE e)]) := by
 have _u := he
 refine gives_of_run (E := TS) (lv := 2) (ds := (.b true :: [])) (v := .tuple #[I (⟨0, 0, true⟩), .int .i64 (soE 0 e 0)]) (ps := [i3P [.int .i64 0, .int .i64 e, .int .i64 0], (soE 0 e 0 == 2) = true]) mo (by kernel_rfl) (ps_cons ⟨(by unfold I64; decide), he, (by unfold I64; decide)⟩ (ps_cons q0 ps_nil)) ?_
 have B := q0
 rw [soE_0] at B
 have z : soE 0 e 0 = 2 := by simpa using q0
 have c : mB 0 e = false := by simpa using B
 unfold smI smE
 rw [z, c]
 rfl
theorem ts1_leaf (e : Int) (he : I64 e) (q0 : (soE 0 e 0 == 2) = false) : Gives P 10 #[.int .i64 e] (.tuple #[I (smI e), .int .i64 (smE e)]) := by
 have _u := he
 refine gives_of_run (E := TS) (lv := 1) (ds := (.b false :: [])) (v := .tuple #[I (rootI (subI (ofI 1) (squareI (pointI e)))), .int .i64 0]) (ps := [i3P [.int .i64 0, .int .i64 e, .int .i64 0], (soE 0 e 0 == 2) = false, nP1 [.int .i64 1], nP1 [.int .i64 e], iP1 [I (pointI e)], iP2 [I (ofI 1), I (squareI (pointI e))], iP1 [I (subI (ofI 1) (squareI (pointI e)))]]) mo (by kernel_rfl) (ps_cons ⟨(by unfold I64; decide), he, (by unfold I64; decide)⟩ (ps_cons q0 (ps_cons (by unfold nP1 I64; decide) (ps_cons he (ps_cons ⟨_, rfl⟩ (ps_cons ⟨⟨_, rfl⟩, _, rfl⟩ (ps_cons ⟨_, rfl⟩ ps_nil))))))) ?_
 have B := q0
 rw [soE_0] at B
 have c : mB 0 e = true := by simpa using B
 unfold smI smE
 rw [c]
 rfl
theorem ts_gives (args : List Value) (h : nP1 args) : Gives P 10 args.toArray ((smV) args) := by
 unfold nP1 at h
 split at h
 · rename_i e
   have he := h
   show Gives P _ #[.int .i64 e] (.tuple #[I (smI e), .int .i64 (smE e)])
   cases q0 : (soE 0 e 0 == 2) with
   | true =>
    exact ts0_leaf e he q0
   | false =>
    exact ts1_leaf e he q0
 · exact h.elim
noncomputable def tSmall : Ctr P := ⟨10, nP1, smV, ts_gives⟩
noncomputable def TW : Env P := ⟨⟨[R3.cInts], [rFine]⟩, [], 20, []⟩
theorem tw0_leaf (i : Iv)  (q0 : (fineL [i]) = true) : Gives P 12 #[I i] (.tuple #[.int .i64 (whN i), .int .i64 (whR i), .bool (fineL [i])]) := by
 refine gives_of_run (E := TW) (lv := 1) (ds := (.lit :: (.b false :: []))) (v := .tuple #[.int .i64 (Qt.iv (IntKind.i64.wrap (i.lo + i.hi)) 1 2147483648), .int .i64 (IntKind.i64.wrap ((IntKind.i64.wrap (IntKind.i64.wrap (mx (mx (IntKind.i64.wrap (IntKind.i64.wrap ((Qt.iv (IntKind.i64.wrap (i.lo + i.hi)) 1 2147483648) * 1073741824) - i.lo)) (IntKind.i64.wrap (i.hi - (IntKind.i64.wrap ((Qt.iv (IntKind.i64.wrap (i.lo + i.hi)) 1 2147483648) * 1073741824))))) 0 + 1073741824) - 1)).tdiv 1073741824)), .bool true]) (ps := [fineP [ivs [i]], (!(fineL [i])) = false, intsP [.int .i64 (IntKind.i64.wrap (i.lo + i.hi)), .int .i64 1, .int .i64 2147483648]]) mo (by kernel_rfl) (ps_cons (ivs_ok (by simp)) (ps_cons (neg_f q0) (ps_cons ⟨wi _, (by unfold I64; decide), (by unfold I64; decide)⟩ ps_nil))) ?_
 rw [whR_alt (fine1 ▸ q0)]
 unfold whN nW
 rw [q0]
 rfl
theorem tw1_leaf (i : Iv)  (q0 : (fineL [i]) = false) : Gives P 12 #[I i] (.tuple #[.int .i64 (whN i), .int .i64 (whR i), .bool (fineL [i])]) := by
 refine gives_of_run (E := TW) (lv := 1) (ds := (.lit :: (.b true :: []))) (v := .tuple #[.int .i64 0, .int .i64 0, .bool false]) (ps := [fineP [ivs [i]], (!(fineL [i])) = true]) mo (by kernel_rfl) (ps_cons (ivs_ok (by simp)) (ps_cons (neg_t q0) ps_nil)) ?_
 rw [(whR_no q0).1, (whR_no q0).2]
 rw [q0]
theorem tw_gives (args : List Value) (h : iP1 args) : Gives P 12 args.toArray ((one1 fun i => .tuple #[.int .i64 (whN i), .int .i64 (whR i), .bool (fineL [i])]) args) := by
 unfold iP1 at h
 split at h
 · obtain ⟨i, rfl⟩ := h
   show Gives P _ #[I i] (.tuple #[.int .i64 (whN i), .int .i64 (whR i), .bool (fineL [i])])
   rcases Bool.eq_false_or_eq_true (fineL [i]) with q0 | q0
   · exact tw0_leaf i  q0
   · exact tw1_leaf i  q0
 · exact h.elim
noncomputable def tWhole : Ctr P := ⟨12, iP1, one1 fun i => .tuple #[.int .i64 (whN i), .int .i64 (whR i), .bool (fineL [i])], tw_gives⟩
noncomputable def TP : Env P := ⟨⟨rSolve :: tSmall :: R7.cSin7 :: R7.cCos7 :: R5.rf5C, [rFine]⟩, [], 20, []⟩
theorem tp0_leaf (a e m : Int) (ha : I64 a) (he : I64 e) (hm : I64 m) (q0 : (decide (a < 1)) = true) : Gives P 6 #[.int .i64 a, .int .i64 e, .int .i64 m] (.tuple #[I (xI a e m), I (yI a e m), .int .i64 (plE a e m)]) := by
 have _u := And.intro ha (And.intro he hm)
 refine gives_of_run (E := TP) (lv := 2) (ds := (.b true :: [])) (v := .tuple #[I (⟨0, 0, true⟩), I (⟨0, 0, true⟩), .int .i64 2]) (ps := [i3P [.int .i64 m, .int .i64 e, .int .i64 40], (decide (a < 1)) = true]) mo (by kernel_rfl) (ps_cons ⟨hm, he, (by unfold I64; decide)⟩ (ps_cons q0 ps_nil)) ?_
 unfold xI yI plE plO
 rw [decide_eq_false (show ¬ a ≥ 1 by have := of_decide_eq_true q0; omega)]
 rfl
theorem tp1_leaf (a e m : Int) (ha : I64 a) (he : I64 e) (hm : I64 m) (q0 : (decide (a < 1)) = false) (q1 : (decide (a > 262144)) = true) : Gives P 6 #[.int .i64 a, .int .i64 e, .int .i64 m] (.tuple #[I (xI a e m), I (yI a e m), .int .i64 (plE a e m)]) := by
 have _u := And.intro ha (And.intro he hm)
 refine gives_of_run (E := TP) (lv := 2) (ds := (.b false :: (.b true :: []))) (v := .tuple #[I (⟨0, 0, true⟩), I (⟨0, 0, true⟩), .int .i64 2]) (ps := [i3P [.int .i64 m, .int .i64 e, .int .i64 40], (decide (a < 1)) = false, (decide (a > 262144)) = true]) mo (by kernel_rfl) (ps_cons ⟨hm, he, (by unfold I64; decide)⟩ (ps_cons q0 (ps_cons q1 ps_nil))) ?_
 unfold xI yI plE plO
 rw [decide_eq_true (show a ≥ 1 by have := of_decide_eq_false q0; omega)]
 rw [decide_eq_false (show ¬ a ≤ 262144 by have := of_decide_eq_true q1; omega)]
 rfl
theorem tp2_leaf (a e m : Int) (ha : I64 a) (he : I64 e) (hm : I64 m) (q0 : (decide (a < 1)) = false) (q1 : (decide (a > 262144)) = false) (q2 : (soE m e 40 == 2) = true) : Gives P 6 #[.int .i64 a, .int .i64 e, .int .i64 m] (.tuple #[I (xI a e m), I (yI a e m), .int .i64 (plE a e m)]) := by
 have _u := And.intro ha (And.intro he hm)
 refine gives_of_run (E := TP) (lv := 2) (ds := (.b false :: (.b false :: (.b true :: [])))) (v := .tuple #[I (⟨0, 0, true⟩), I (⟨0, 0, true⟩), .int .i64 2]) (ps := [i3P [.int .i64 m, .int .i64 e, .int .i64 40], (decide (a < 1)) = false, (decide (a > 262144)) = false, (soE m e 40 == 2) = true]) mo (by kernel_rfl) (ps_cons ⟨hm, he, (by unfold I64; decide)⟩ (ps_cons q0 (ps_cons q1 (ps_cons q2 ps_nil)))) ?_
 unfold xI yI plE plO
 rw [decide_eq_true (show a ≥ 1 by have := of_decide_eq_false q0; omega)]
 rw [decide_eq_true (show a ≤ 262144 by have := of_decide_eq_false q1; omega)]
 rw [soE_t q2]
 rfl
theorem tp3_leaf (a e m : Int) (ha : I64 a) (he : I64 e) (hm : I64 m) (q0 : (decide (a < 1)) = false) (q1 : (decide (a > 262144)) = false) (q2 : (soE m e 40 == 2) = false) : Gives P 6 #[.int .i64 a, .int .i64 e, .int .i64 m] (.tuple #[I (xI a e m), I (yI a e m), .int .i64 (plE a e m)]) := by
 have _u := And.intro ha (And.intro he hm)
 refine gives_of_run (E := TP) (lv := 1) (ds := (.b false :: (.b false :: (.b false :: [])))) (v := .tuple #[I (partI (subI (waveI true (soI m e 40)) (pointI e)) a 1), I (partI (mulI (smI e) (waveI false (soI m e 40))) a 1), .int .i64 0]) (ps := [i3P [.int .i64 m, .int .i64 e, .int .i64 40], (decide (a < 1)) = false, (decide (a > 262144)) = false, (soE m e 40 == 2) = false, nP1 [.int .i64 e], R7.sc7P [I (soI m e 40)], nP1 [.int .i64 e], iP2 [I (waveI true (soI m e 40)), I (pointI e)], R7.sc7P [I (soI m e 40)], iP2 [I (smI e), I (waveI false (soI m e 40))], partP [I (subI (waveI true (soI m e 40)) (pointI e)), .int .i64 a, .int .i64 1], partP [I (mulI (smI e) (waveI false (soI m e 40))), .int .i64 a, .int .i64 1]]) mo (by kernel_rfl) (ps_cons ⟨hm, he, (by unfold I64; decide)⟩ (ps_cons q0 (ps_cons q1 (ps_cons q2 (ps_cons he (ps_cons ⟨_, rfl, (pl (a := a) (plO_iff.2 ⟨by have := of_decide_eq_false q0; omega, by have := of_decide_eq_false q1; omega, soE_f q2⟩)).w⟩ (ps_cons he (ps_cons ⟨⟨_, rfl⟩, _, rfl⟩ (ps_cons ⟨_, rfl, (pl (a := a) (plO_iff.2 ⟨by have := of_decide_eq_false q0; omega, by have := of_decide_eq_false q1; omega, soE_f q2⟩)).w⟩ (ps_cons ⟨⟨_, rfl⟩, _, rfl⟩ (ps_cons ⟨⟨_, rfl⟩, ha, (by unfold I64; decide)⟩ (ps_cons ⟨⟨_, rfl⟩, ha, (by unfold I64; decide)⟩ ps_nil)))))))))))) ?_
 unfold xI yI plE plO
 rw [decide_eq_true (show a ≥ 1 by have := of_decide_eq_false q0; omega)]
 rw [decide_eq_true (show a ≤ 262144 by have := of_decide_eq_false q1; omega)]
 rw [soE_f q2]
 rfl
theorem tp_gives (args : List Value) (h : i3P args) : Gives P 6 args.toArray ((plV) args) := by
 unfold i3P at h
 split at h
 · rename_i a e m
   obtain ⟨ha, he, hm⟩ := h
   show Gives P _ #[.int .i64 a, .int .i64 e, .int .i64 m] (.tuple #[I (xI a e m), I (yI a e m), .int .i64 (plE a e m)])
   cases q0 : (decide (a < 1)) with
   | true =>
    exact tp0_leaf a e m ha he hm q0
   | false =>
    cases q1 : (decide (a > 262144)) with
    | true =>
     exact tp1_leaf a e m ha he hm q0 q1
    | false =>
     cases q2 : (soE m e 40 == 2) with
     | true =>
      exact tp2_leaf a e m ha he hm q0 q1 q2
     | false =>
      exact tp3_leaf a e m ha he hm q0 q1 q2
 · exact h.elim
noncomputable def tPlace : Ctr P := ⟨6, i3P, plV, tp_gives⟩
noncomputable def TA : Env P := ⟨⟨[tPlace, tWhole], []⟩, [], 20, []⟩
theorem ta0_leaf (a e m : Int) (ha : I64 a) (he : I64 e) (hm : I64 m) (q0 : (plE a e m != 0) = true) : Gives P 8 #[.int .i64 a, .int .i64 e, .int .i64 m] (.tuple #[.agg #[.int .i64 (atX a e m), .int .i64 (atY a e m), .int .i64 0], .int .i64 (atR a e m), .int .i64 (plE a e m)]) := by
 have _u := And.intro ha (And.intro he hm)
 refine gives_of_run (E := TA) (lv := 1) (ds := (.b true :: [])) (v := .tuple #[.agg #[.int .i64 0, .int .i64 0, .int .i64 0], .int .i64 0, .int .i64 (plE a e m)]) (ps := [i3P [.int .i64 a, .int .i64 e, .int .i64 m], (plE a e m != 0) = true]) mo (by kernel_rfl) (ps_cons ⟨ha, he, hm⟩ (ps_cons q0 ps_nil)) ?_
 have z : (plE a e m == 0) = false := by simpa using q0
 unfold atX atY atR
 rw [z]
 rfl
theorem ta1_leaf (a e m : Int) (ha : I64 a) (he : I64 e) (hm : I64 m) (q0 : (plE a e m != 0) = false) : Gives P 8 #[.int .i64 a, .int .i64 e, .int .i64 m] (.tuple #[.agg #[.int .i64 (atX a e m), .int .i64 (atY a e m), .int .i64 0], .int .i64 (atR a e m), .int .i64 (plE a e m)]) := by
 have _u := And.intro ha (And.intro he hm)
 refine gives_of_run (E := TA) (lv := 1) (ds := (.b false :: [])) (v := .tuple #[.agg #[.int .i64 (whN (xI a e m)), .int .i64 (whN (yI a e m)), .int .i64 0], .int .i64 (mx (whR (xI a e m)) (whR (yI a e m))), .int .i64 0]) (ps := [i3P [.int .i64 a, .int .i64 e, .int .i64 m], (plE a e m != 0) = false, iP1 [I (xI a e m)], iP1 [I (yI a e m)]]) mo (by kernel_rfl) (ps_cons ⟨ha, he, hm⟩ (ps_cons q0 (ps_cons ⟨_, rfl⟩ (ps_cons ⟨_, rfl⟩ ps_nil)))) ?_
 have z : (plE a e m == 0) = true := by simpa using q0
 have z2 : plE a e m = 0 := by simpa using q0
 unfold atX atY atR
 rw [z, z2]
 have g := whR_0 (xI a e m)
 have e0 : mx 0 (whR (xI a e m)) = whR (xI a e m) := by unfold mx; split <;> omega
 show _ = Value.tuple #[.agg #[.int .i64 (whN (xI a e m)), .int .i64 (whN (yI a e m)), .int .i64 0], .int .i64 (mx (mx 0 (whR (xI a e m))) (whR (yI a e m))), .int .i64 0]
 rw [e0]
theorem ta_gives (args : List Value) (h : i3P args) : Gives P 8 args.toArray ((atV) args) := by
 unfold i3P at h
 split at h
 · rename_i a e m
   obtain ⟨ha, he, hm⟩ := h
   show Gives P _ #[.int .i64 a, .int .i64 e, .int .i64 m] (.tuple #[.agg #[.int .i64 (atX a e m), .int .i64 (atY a e m), .int .i64 0], .int .i64 (atR a e m), .int .i64 (plE a e m)])
   cases q0 : (plE a e m != 0) with
   | true =>
    exact ta0_leaf a e m ha he hm q0
   | false =>
    exact ta1_leaf a e m ha he hm q0
 · exact h.elim
noncomputable def tAt : Ctr P := ⟨8, i3P, atV, ta_gives⟩
noncomputable def ref21C : List (Ctr P) := [tSmall, tWhole, tPlace, tAt]
end Go.Or
