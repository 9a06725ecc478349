/-
 Contracts of package orbit. Printed by orB.py.
-/
import Derived.Test.YtekplphjbngabaaGreatDoorKeD
import Derived.Test.YtekplphjbngabaaGreatDoorKeE
import Derived.Test.YtekplphjbngabaaGreatDoorHeA
set_option maxRecDepth 100000
namespace Go.Or
open Go Go.RowKit Go.Sx Go.Nm Go.Wd Go.Qt Go.Iv Go.An Go.Wv Go.Nv Go.Ke Go.Proofs
theorem wi (n : Int) : I64 (IntKind.i64.wrap n) := by
 have e : IntKind.i64.wrap n = if n % 18446744073709551616 ≥ 9223372036854775808 then n % 18446744073709551616 - 18446744073709551616 else n % 18446744073709551616 := by
  simp [IntKind.wrap, IntKind.signed, IntKind.bits]
 rw [e]; unfold I64; split <;> omega
theorem soE_mB (m e : Int) : (soE m e 40 == 2) = !mB m e := by
 unfold soE
 cases mB m e <;> rfl
theorem nrE_mB (m e : Int) : nrE m e = bif mB m e then 0 else 2 := by
 unfold nrE
 rw [soE_mB]
 cases mB m e <;> rfl
theorem mB_0 {m e : Int} (h : mB m e = true) : mB 0 e = true := by
 have a := mB_iff.1 h
 exact mB_iff.2 ⟨by omega, by omega, a.2.2.1, a.2.2.2⟩
def smI (e : Int) : Iv := bif mB 0 e then rootI (subI (ofI 1) (squareI (pointI e))) else ⟨0, 0, true⟩
def smE (e : Int) : Int := bif mB 0 e then 0 else 2
def smV : List Value → Value
 | [.int _ e] => .tuple #[I (smI e), .int .i64 (smE e)]
 | _ => undef
noncomputable def OS : Env P := ⟨⟨[cNr, cRoot, cSquare] ++ ivalC, ivalD⟩, [], 20, []⟩
theorem sm0_leaf (e : Int) (he : I64 e) (q0 : (nrE 0 e != 0) = true) : Gives P 9 #[.int .i64 e] (.tuple #[I (smI e), .int .i64 (smE e)]) := by
 have _u := he
 refine gives_of_run (E := OS) (lv := 1) (ds := (.b true :: [])) (v := .tuple #[I (⟨0, 0, true⟩), .int .i64 (nrE 0 e)]) (ps := [i2P [.int .i64 0, .int .i64 e], (nrE 0 e != 0) = true]) mo (by kernel_rfl) (ps_cons ⟨(by unfold I64; decide), he⟩ (ps_cons q0 ps_nil)) ?_
 have B := q0
 rw [nrE_mB] at B
 unfold smI smE
 cases c : mB 0 e with
 | true => rw [c] at B; cases B
 | false => rw [nrE_mB, c]; rfl
theorem sm1_leaf (e : Int) (he : I64 e) (q0 : (nrE 0 e != 0) = false) : Gives P 9 #[.int .i64 e] (.tuple #[I (smI e), .int .i64 (smE e)]) := by
 have _u := he
 refine gives_of_run (E := OS) (lv := 1) (ds := (.b false :: [])) (v := .tuple #[I (rootI (subI (ofI 1) (squareI (pointI e)))), .int .i64 0]) (ps := [i2P [.int .i64 0, .int .i64 e], (nrE 0 e != 0) = false, nP1 [.int .i64 1], nP1 [.int .i64 e], iP1 [I (pointI e)], iP2 [I (ofI 1), I (squareI (pointI e))], iP1 [I (subI (ofI 1) (squareI (pointI e)))]]) mo (by kernel_rfl) (ps_cons ⟨(by unfold I64; decide), he⟩ (ps_cons q0 (ps_cons (by unfold nP1 I64; decide) (ps_cons he (ps_cons ⟨_, rfl⟩ (ps_cons ⟨⟨_, rfl⟩, _, rfl⟩ (ps_cons ⟨_, rfl⟩ ps_nil))))))) ?_
 have B := q0
 rw [nrE_mB] at B
 unfold smI smE
 cases c : mB 0 e with
 | true => rfl
 | false => rw [c] at B; cases B
theorem sm_gives (args : List Value) (h : nP1 args) : Gives P 9 args.toArray ((smV) args) := by
 unfold nP1 at h
 split at h
 · rename_i e
   have he := h
   show Gives P _ #[.int .i64 e] (.tuple #[I (smI e), .int .i64 (smE e)])
   cases q0 : (nrE 0 e != 0) with
   | true =>
    exact sm0_leaf e he q0
   | false =>
    exact sm1_leaf e he q0
 · exact h.elim
noncomputable def cSmall : Ctr P := ⟨9, nP1, smV, sm_gives⟩
def plO (a e m : Int) : Bool := decide (a ≥ 1) && (decide (a ≤ 262144) && mB m e)
def xI (a e m : Int) : Iv := bif plO a e m then partI (subI (waveI true (soI m e 40)) (pointI e)) a 1 else ⟨0, 0, true⟩
def yI (a e m : Int) : Iv := bif plO a e m then partI (mulI (smI e) (waveI false (soI m e 40))) a 1 else ⟨0, 0, true⟩
def plE (a e m : Int) : Int := bif plO a e m then 0 else 2
def plV : List Value → Value
 | [.int _ a, .int _ e, .int _ m] => .tuple #[I (xI a e m), I (yI a e m), .int .i64 (plE a e m)]
 | _ => undef
theorem at_dv {P : Program} {f : FuncId} {ty sz : Nat} {q : RowS} {x u v : Value} (h : GivesD P f [.v x, .at_ ⟨ty, sz, 1, fun _ => u, false⟩] v) (hs : q.sz = sz) (hn : q.n = 1) (he : q.el 0 = u) : GivesD P f [.v x, .at_ q] v :=
 fun F n o a W K Q args h1 h2 h3 h4 h5 h6 => h F n o a W K Q args h1 h2 h3 h4 (by
  match args, h5 with
  | [_, _], ⟨g1, ⟨p, hp, w⟩, g3⟩ =>
   refine ⟨g1, ⟨p, hp, w.n.trans hn, by have := w.cap; simp only [hn] at this; exact this, fun e => (by cases e), ?_⟩, g3⟩
   obtain ⟨cells, ty', fr, hc, _, hel⟩ := w.mem
   refine ⟨cells, ty', fr, hc, fun e => (by cases e), fun j hj => ?_⟩
   have hj : j < 1 := hj
   obtain rfl : j = 0 := by omega
   have := hel 0 (by simp only [hn]; omega)
   simp only [hs, he] at this
   exact this) h6
def byP : List DV → Prop
 | [.v x, .at_ q] => (∃ a, x = I a) ∧ q.sz = 1 ∧ q.n = 1 ∧ ∃ n, q.el 0 = .int .i64 n ∧ I64 n
 | _ => False
def byV : List DV → Value
 | [.v x, .at_ q] => match q.el 0 with
  | .int _ n => I (partI (rd x) n 1)
  | _ => undef
 | _ => undef
noncomputable def OB : Env P := ⟨⟨ivalC, ivalD⟩, [], 20, []⟩
theorem by_run (x : Iv) (n : Int) : runD P OB 1 18 [.v (I x), .at_ ⟨3, 1, 1, fun _ => .int .i64 n, false⟩] [] = some (I (partI x n 1), [0 < 1, partP [I x, .int .i64 n, .int .i64 1]]) := by kernel_rfl
theorem by_gives (ds : List DV) (h : byP ds) : GivesD P 18 ds (byV ds) := by
 unfold byP at h
 split at h
 · rename_i y q
   obtain ⟨⟨x, rfl⟩, h1, h2, n, h3, hn⟩ := h
   have e : byV [.v (I x), .at_ q] = I (partI x n 1) := by simp only [byV, h3]; rfl
   rw [e]
   exact at_dv (ty := 3) (givesD_of_run mo (by_run x n) (ps_cons (by decide) (ps_cons ⟨⟨_, rfl⟩, hn, (by unfold I64; decide)⟩ ps_nil)) rfl) h1 h2 h3
 · exact h.elim
noncomputable def cBy : CtrD P := ⟨18, byP, byV, by_gives⟩
noncomputable def OP : Env P := ⟨⟨[cSo, cSmall] ++ waveC ++ ivalC, cBy :: ivalD⟩, [], 20, []⟩
theorem soE_t {m e : Int} (h : (soE m e 40 == 2) = true) : mB m e = false := by rw [soE_mB] at h; simpa using h
theorem soE_f {m e : Int} (h : (soE m e 40 == 2) = false) : mB m e = true := by rw [soE_mB] at h; simpa using h
theorem pl0_leaf (a e m : Int) (ha : I64 a) (he : I64 e) (hm : I64 m) (q0 : (decide (a < 1)) = true) : Gives P 5 #[.int .i64 a, .int .i64 e, .int .i64 m] (.tuple #[I (xI a e m), I (yI a e m), .int .i64 (plE a e m)]) := by
 have _u := And.intro ha (And.intro he hm)
 refine gives_of_run (E := OP) (lv := 2) (ds := (.lit :: (.b true :: []))) (v := .tuple #[I (⟨0, 0, true⟩), I (⟨0, 0, true⟩), .int .i64 2]) (ps := [i3P [.int .i64 m, .int .i64 e, .int .i64 40], nP1 [.int .i64 e], (decide (a < 1)) = true]) mo (by kernel_rfl) (ps_cons ⟨hm, he, (by unfold I64; decide)⟩ (ps_cons he (ps_cons q0 ps_nil))) ?_
 unfold xI yI plE plO
 rw [decide_eq_false (show ¬ a ≥ 1 by have := of_decide_eq_true q0; omega)]
 rfl
theorem pl1_leaf (a e m : Int) (ha : I64 a) (he : I64 e) (hm : I64 m) (q0 : (decide (a < 1)) = false) (q1 : (decide (a > 262144)) = true) : Gives P 5 #[.int .i64 a, .int .i64 e, .int .i64 m] (.tuple #[I (xI a e m), I (yI a e m), .int .i64 (plE a e m)]) := by
 have _u := And.intro ha (And.intro he hm)
 refine gives_of_run (E := OP) (lv := 2) (ds := (.lit :: (.b false :: (.b true :: [])))) (v := .tuple #[I (⟨0, 0, true⟩), I (⟨0, 0, true⟩), .int .i64 2]) (ps := [i3P [.int .i64 m, .int .i64 e, .int .i64 40], nP1 [.int .i64 e], (decide (a < 1)) = false, (decide (a > 262144)) = true]) mo (by kernel_rfl) (ps_cons ⟨hm, he, (by unfold I64; decide)⟩ (ps_cons he (ps_cons q0 (ps_cons q1 ps_nil)))) ?_
 unfold xI yI plE plO
 rw [decide_eq_true (show a ≥ 1 by have := of_decide_eq_false q0; omega)]
 rw [decide_eq_false (show ¬ a ≤ 262144 by have := of_decide_eq_true q1; omega)]
 rfl
theorem pl2_leaf (a e m : Int) (ha : I64 a) (he : I64 e) (hm : I64 m) (q0 : (decide (a < 1)) = false) (q1 : (decide (a > 262144)) = false) (q2 : (soE m e 40 == 2) = true) : Gives P 5 #[.int .i64 a, .int .i64 e, .int .i64 m] (.tuple #[I (xI a e m), I (yI a e m), .int .i64 (plE a e m)]) := by
 have _u := And.intro ha (And.intro he hm)
 refine gives_of_run (E := OP) (lv := 2) (ds := (.lit :: (.b false :: (.b false :: (.b true :: []))))) (v := .tuple #[I (⟨0, 0, true⟩), I (⟨0, 0, true⟩), .int .i64 2]) (ps := [i3P [.int .i64 m, .int .i64 e, .int .i64 40], nP1 [.int .i64 e], (decide (a < 1)) = false, (decide (a > 262144)) = false, (soE m e 40 == 2) = true]) mo (by kernel_rfl) (ps_cons ⟨hm, he, (by unfold I64; decide)⟩ (ps_cons he (ps_cons q0 (ps_cons q1 (ps_cons q2 ps_nil))))) ?_
 unfold xI yI plE plO
 rw [decide_eq_true (show a ≥ 1 by have := of_decide_eq_false q0; omega)]
 rw [decide_eq_true (show a ≤ 262144 by have := of_decide_eq_false q1; omega)]
 rw [soE_t q2]
 rfl
theorem pl3_leaf (a e m : Int) (ha : I64 a) (he : I64 e) (hm : I64 m) (q0 : (decide (a < 1)) = false) (q1 : (decide (a > 262144)) = false) (q2 : (soE m e 40 == 2) = false) (q3 : (smE e != 0) = false) : Gives P 5 #[.int .i64 a, .int .i64 e, .int .i64 m] (.tuple #[I (xI a e m), I (yI a e m), .int .i64 (plE a e m)]) := by
 have _u := And.intro ha (And.intro he hm)
 refine gives_of_run (E := OP) (lv := 1) (ds := (.lit :: (.b false :: (.b false :: (.b false :: (.b false :: [])))))) (v := .tuple #[I (partI (subI (waveI true (soI m e 40)) (pointI e)) a 1), I (partI (mulI (smI e) (waveI false (soI m e 40))) a 1), .int .i64 0]) (ps := [i3P [.int .i64 m, .int .i64 e, .int .i64 40], nP1 [.int .i64 e], (decide (a < 1)) = false, (decide (a > 262144)) = false, (soE m e 40 == 2) = false, (smE e != 0) = false, iP1 [I (soI m e 40)], nP1 [.int .i64 e], iP2 [I (waveI true (soI m e 40)), I (pointI e)], byP [.v (I (subI (waveI true (soI m e 40)) (pointI e))), .at_ ⟨3, 1, 1, fun j => [(.int .i64 a : Value)].getD (0 + j) undef, false⟩], iP1 [I (soI m e 40)], iP2 [I (smI e), I (waveI false (soI m e 40))], byP [.v (I (mulI (smI e) (waveI false (soI m e 40)))), .at_ ⟨3, 1, 1, fun j => [(.int .i64 a : Value)].getD (0 + j) undef, false⟩]]) mo (by kernel_rfl) (ps_cons ⟨hm, he, (by unfold I64; decide)⟩ (ps_cons he (ps_cons q0 (ps_cons q1 (ps_cons q2 (ps_cons q3 (ps_cons ⟨_, rfl⟩ (ps_cons he (ps_cons ⟨⟨_, rfl⟩, _, rfl⟩ (ps_cons ⟨⟨_, rfl⟩, rfl, rfl, _, rfl, ha⟩ (ps_cons ⟨_, rfl⟩ (ps_cons ⟨⟨_, rfl⟩, _, rfl⟩ (ps_cons ⟨⟨_, rfl⟩, rfl, rfl, _, rfl, ha⟩ ps_nil))))))))))))) ?_
 unfold xI yI plE plO
 rw [decide_eq_true (show a ≥ 1 by have := of_decide_eq_false q0; omega)]
 rw [decide_eq_true (show a ≤ 262144 by have := of_decide_eq_false q1; omega)]
 rw [soE_f q2]
 rfl
theorem pl_gives (args : List Value) (h : i3P args) : Gives P 5 args.toArray ((plV) args) := by
 unfold i3P at h
 split at h
 · rename_i a e m
   obtain ⟨ha, he, hm⟩ := h
   show Gives P _ #[.int .i64 a, .int .i64 e, .int .i64 m] (.tuple #[I (xI a e m), I (yI a e m), .int .i64 (plE a e m)])
   cases q0 : (decide (a < 1)) with
   | true =>
    exact pl0_leaf a e m ha he hm q0
   | false =>
    cases q1 : (decide (a > 262144)) with
    | true =>
     exact pl1_leaf a e m ha he hm q0 q1
    | false =>
     cases q2 : (soE m e 40 == 2) with
     | true =>
      exact pl2_leaf a e m ha he hm q0 q1 q2
     | false =>
      have q3 : (smE e != 0) = false := (by unfold smE; rw [mB_0 (soE_f q2)]; rfl)
      exact pl3_leaf a e m ha he hm q0 q1 q2 q3
 · exact h.elim
noncomputable def cPlace : Ctr P := ⟨5, i3P, plV, pl_gives⟩
def nW (i : Iv) : Int := Qt.iv (IntKind.i64.wrap (i.lo + i.hi)) 1 2147483648
def farW (i : Iv) : Int := mx (IntKind.i64.wrap (IntKind.i64.wrap ((nW i) * 1073741824) - i.lo)) (IntKind.i64.wrap (i.hi - (IntKind.i64.wrap ((nW i) * 1073741824))))
def whN (i : Iv) : Int := bif fineL [i] then nW i else 0
def whR (i : Iv) : Int := bif fineL [i] then (bif decide (farW i > 0) then IntKind.i64.wrap (IntKind.i64.wrap ((IntKind.i64.wrap (farW i - 1)).tdiv 1073741824) + 1) else 0) else 0
noncomputable def OW : Env P := ⟨⟨quotC, ivalD⟩, [], 20, []⟩
theorem wh0_leaf (i : Iv)  (q0 : (fineL [i]) = true) (q1 : (decide (farW i > 0)) = true) : Gives P 11 #[I i] (.tuple #[.int .i64 (whN i), .int .i64 (whR i), .bool (fineL [i])]) := by
 refine gives_of_run (E := OW) (lv := 1) (ds := (.lit :: (.b false :: (.b true :: [])))) (v := .tuple #[.int .i64 (nW i), .int .i64 (IntKind.i64.wrap (IntKind.i64.wrap ((IntKind.i64.wrap (farW i - 1)).tdiv 1073741824) + 1)), .bool true]) (ps := [fineP [ivs [i]], (!(fineL [i])) = false, intsP [.int .i64 (IntKind.i64.wrap (i.lo + i.hi)), .int .i64 1, .int .i64 2147483648], (decide (farW i > 0)) = true]) mo (by kernel_rfl) (ps_cons (ivs_ok (by simp)) (ps_cons (neg_f q0) (ps_cons ⟨wi _, (by unfold I64; decide), (by unfold I64; decide)⟩ (ps_cons q1 ps_nil)))) ?_
 unfold whN whR
 rw [q0, q1]
 rfl
theorem wh1_leaf (i : Iv)  (q0 : (fineL [i]) = false) : Gives P 11 #[I i] (.tuple #[.int .i64 (whN i), .int .i64 (whR i), .bool (fineL [i])]) := by
 refine gives_of_run (E := OW) (lv := 1) (ds := (.lit :: (.b true :: []))) (v := .tuple #[.int .i64 0, .int .i64 0, .bool false]) (ps := [fineP [ivs [i]], (!(fineL [i])) = true]) mo (by kernel_rfl) (ps_cons (ivs_ok (by simp)) (ps_cons (neg_t q0) ps_nil)) ?_
 unfold whN whR
 rw [q0]
 rfl
theorem wh2_leaf (i : Iv)  (q0 : (fineL [i]) = true) (q1 : (decide (farW i > 0)) = false) : Gives P 11 #[I i] (.tuple #[.int .i64 (whN i), .int .i64 (whR i), .bool (fineL [i])]) := by
 refine gives_of_run (E := OW) (lv := 1) (ds := (.lit :: (.b false :: (.b false :: [])))) (v := .tuple #[.int .i64 (nW i), .int .i64 0, .bool true]) (ps := [fineP [ivs [i]], (!(fineL [i])) = false, intsP [.int .i64 (IntKind.i64.wrap (i.lo + i.hi)), .int .i64 1, .int .i64 2147483648], (decide (farW i > 0)) = false]) mo (by kernel_rfl) (ps_cons (ivs_ok (by simp)) (ps_cons (neg_f q0) (ps_cons ⟨wi _, (by unfold I64; decide), (by unfold I64; decide)⟩ (ps_cons q1 ps_nil)))) ?_
 unfold whN whR
 rw [q0, q1]
 rfl
theorem wh_gives (args : List Value) (h : iP1 args) : Gives P 11 args.toArray ((one1 fun i => .tuple #[.int .i64 (whN i), .int .i64 (whR i), .bool (fineL [i])]) args) := by
 unfold iP1 at h
 split at h
 · obtain ⟨i, rfl⟩ := h
   show Gives P _ #[I i] (.tuple #[.int .i64 (whN i), .int .i64 (whR i), .bool (fineL [i])])
   rcases Bool.eq_false_or_eq_true (fineL [i]) with q0 | q0
   · rcases Bool.eq_false_or_eq_true (decide (farW i > 0)) with q1 | q1
     · exact wh0_leaf i  q0 q1
     · exact wh2_leaf i  q0 q1
   · exact wh1_leaf i  q0
 · exact h.elim
noncomputable def cWhole : Ctr P := ⟨11, iP1, one1 fun i => .tuple #[.int .i64 (whN i), .int .i64 (whR i), .bool (fineL [i])], wh_gives⟩
def atX (a e m : Int) : Int := bif plE a e m == 0 then whN (xI a e m) else 0
def atY (a e m : Int) : Int := bif plE a e m == 0 then whN (yI a e m) else 0
def atR (a e m : Int) : Int := bif plE a e m == 0 then mx (mx 0 (whR (xI a e m))) (whR (yI a e m)) else 0
def atV : List Value → Value
 | [.int _ a, .int _ e, .int _ m] => .tuple #[.agg #[.int .i64 (atX a e m), .int .i64 (atY a e m), .int .i64 0], .int .i64 (atR a e m), .int .i64 (plE a e m)]
 | _ => undef
noncomputable def OA : Env P := ⟨⟨[cPlace, cWhole], []⟩, [], 20, []⟩
theorem at0_leaf (a e m : Int) (ha : I64 a) (he : I64 e) (hm : I64 m) (q0 : (plE a e m == 0) = true) : Gives P 7 #[.int .i64 a, .int .i64 e, .int .i64 m] (.tuple #[.agg #[.int .i64 (atX a e m), .int .i64 (atY a e m), .int .i64 0], .int .i64 (atR a e m), .int .i64 (plE a e m)]) := by
 refine gives_of_run (E := OA) (lv := 1) (ds := (.lit :: (.lit :: (.b true :: (.lit :: (.lit :: (.b true :: []))))))) (v := .tuple #[.agg #[.int .i64 (whN (xI a e m)), .int .i64 (whN (yI a e m)), .int .i64 0], .int .i64 (mx (mx 0 (whR (xI a e m))) (whR (yI a e m))), .int .i64 (plE a e m)]) (ps := [i3P [.int .i64 a, .int .i64 e, .int .i64 m], (plE a e m == 0) = true, iP1 [I (xI a e m)], (plE a e m == 0) = true, iP1 [I (yI a e m)]]) mo (by kernel_rfl) (ps_cons ⟨ha, he, hm⟩ (ps_cons q0 (ps_cons ⟨_, rfl⟩ (ps_cons q0 (ps_cons ⟨_, rfl⟩ ps_nil))))) ?_
 unfold atX atY atR
 rw [q0]
 rfl
theorem at1_leaf (a e m : Int) (ha : I64 a) (he : I64 e) (hm : I64 m) (q0 : (plE a e m == 0) = false) : Gives P 7 #[.int .i64 a, .int .i64 e, .int .i64 m] (.tuple #[.agg #[.int .i64 (atX a e m), .int .i64 (atY a e m), .int .i64 0], .int .i64 (atR a e m), .int .i64 (plE a e m)]) := by
 refine gives_of_run (E := OA) (lv := 1) (ds := (.lit :: (.lit :: (.b false :: (.lit :: (.b false :: [])))))) (v := .tuple #[.agg #[.int .i64 0, .int .i64 0, .int .i64 0], .int .i64 0, .int .i64 (plE a e m)]) (ps := [i3P [.int .i64 a, .int .i64 e, .int .i64 m], (plE a e m == 0) = false, (plE a e m == 0) = false]) mo (by kernel_rfl) (ps_cons ⟨ha, he, hm⟩ (ps_cons q0 (ps_cons q0 ps_nil))) ?_
 unfold atX atY atR
 rw [q0]
 rfl
theorem at_gives (args : List Value) (h : i3P args) : Gives P 7 args.toArray ((atV) args) := by
 unfold i3P at h
 split at h
 · rename_i a e m
   obtain ⟨ha, he, hm⟩ := h
   show Gives P _ #[.int .i64 a, .int .i64 e, .int .i64 m] (.tuple #[.agg #[.int .i64 (atX a e m), .int .i64 (atY a e m), .int .i64 0], .int .i64 (atR a e m), .int .i64 (plE a e m)])
   cases q0 : (plE a e m == 0) with
   | true =>
    exact at0_leaf a e m ha he hm q0
   | false =>
    exact at1_leaf a e m ha he hm q0
 · exact h.elim
noncomputable def cAt : Ctr P := ⟨7, i3P, atV, at_gives⟩
noncomputable def orbC : List (Ctr P) := [cSmall, cPlace, cWhole, cAt]
end Go.Or
