/-
 Contracts of kepler's Gap, Solve, Near, Below. Printed by keD.py.
-/
import Derived.Test.YtekplphjbngabaaGreatDoorKeC
set_option maxRecDepth 100000
namespace Go.Ke
open Go Go.RowKit Go.Sx Go.Nm Go.Wd Go.Qt Go.Iv Go.An Go.Wv Go.Nv Go.Proofs
noncomputable def ktf : Func := Tryz.f99
noncomputable def ktOps : Array Oper := opsOf (codeOf ktf)
noncomputable def ktRest : Code := restOf (codeOf ktf)
noncomputable def toldK : DefC P :=
 recC mo Q0 (by rfl) 1 99 0 2 ktf ktOps ktRest (ktOps[0]?.getD default) (by kernel_rfl) (by kernel_rfl) (by kernel_rfl) (of_decide_eq_true (by kernel_rfl)) (by kernel_rfl) (by kernel_rfl) (by kernel_rfl) (of_decide_eq_true (by kernel_rfl)) (by kernel_rfl)
noncomputable def KE : Env P := ⟨⟨[cGap, cSgn, cHalve], []⟩, [], 20, [toldK]⟩
def mB (m e : Int) : Bool := decide (m ≥ 0) && (decide (m ≤ 3221225472) && (decide (e ≥ 0) && decide (e ≤ 966367641)))
def pB (p : Int) : Bool := decide (p ≥ -1073741824) && decide (p ≤ 4294967296)
def fB (f : Int) : Bool := decide (f ≥ 0) && decide (f ≤ 40)
theorem mB_iff {m e : Int} : mB m e = true ↔ 0 ≤ m ∧ m ≤ 3221225472 ∧ 0 ≤ e ∧ e ≤ 966367641 := by unfold mB; simp
theorem pB_iff {p : Int} : pB p = true ↔ -1073741824 ≤ p ∧ p ≤ 4294967296 := by unfold pB; simp
theorem fB_iff {f : Int} : fB f = true ↔ 0 ≤ f ∧ f ≤ 40 := by unfold fB; simp
theorem may_of {m e p : Int} (h : mB m e = true) (k : pB p = true) : May m e p := by
 have a := mB_iff.1 h
 have b := pB_iff.1 k
 exact ⟨a.1, a.2.1, a.2.2.1, a.2.2.2, b.1, b.2⟩
def i3P : List Value → Prop
 | [.int .i64 a, .int .i64 b, .int .i64 c] => I64 a ∧ I64 b ∧ I64 c
 | _ => False
def i2P : List Value → Prop
 | [.int .i64 a, .int .i64 b] => I64 a ∧ I64 b
 | _ => False
def gpI (m e p : Int) : Iv := bif mB m e && pB p then gapI m e p else ⟨0, 0, false⟩
def gpE (m e p : Int) : Int := bif mB m e && pB p then 0 else 2
def soI (m e f : Int) : Iv := bif mB m e && fB f then ⟨haA m e (-1) f, haA m e 1 f, false⟩ else ⟨0, 0, false⟩
def soN (m e f : Int) : Int := bif mB m e && fB f then IntKind.i64.wrap (haN f + (haN f)) else 0
def soE (m e f : Int) : Int := bif mB m e && fB f then (bif haD f then 0 else 200) else 2
def gpV : List Value → Value
 | [.int _ m, .int _ e, .int _ p] => .tuple #[I (gpI m e p), .int .i64 (gpE m e p)]
 | _ => undef
def soV : List Value → Value
 | [.int _ m, .int _ e, .int _ f] => .tuple #[I (soI m e f), .int .i64 (soN m e f), .int .i64 (soE m e f)]
 | _ => undef
theorem so0_leaf (m e f : Int) (hm : I64 m) (he : I64 e) (hp : I64 f) (q0 : (decide (m ≥ 0)) = true) (q1 : (decide (m ≤ 3221225472)) = true) (q2 : (decide (e ≥ 0)) = true) (q3 : (decide (e ≤ 966367641)) = true) (q4 : (decide (f ≥ 0)) = true) (q5 : (decide (f ≤ 40)) = true) (q6 : (haD f) = true) : Gives P 20 #[.int .i64 m, .int .i64 e, .int .i64 f] (.tuple #[I (soI m e f), .int .i64 (soN m e f), .int .i64 (soE m e f)]) := by
 have _u := And.intro hm (And.intro he hp)
 refine gives_of_run (E := KE) (lv := 5) (ds := (.b true :: (.b false :: (.b true :: (.b false :: (.b true :: (.b false :: (.b true :: (.lit :: (.b false :: [])))))))))) (v := .tuple #[I (⟨haA m e (-1) f, haA m e 1 f, false⟩), .int .i64 (IntKind.i64.wrap (haN f + (haN f))), .int .i64 0]) (ps := [(decide (m ≥ 0)) = true, (!(decide (m ≤ 3221225472))) = false, (decide (e ≥ 0)) = true, (!(decide (e ≤ 966367641))) = false, (decide (f ≥ 0)) = true, (!(decide (f ≤ 40))) = false, haP [.agg #[.int .i64 m, .int .i64 e], .int .i64 (-1), .int .i64 f], haP [.agg #[.int .i64 m, .int .i64 e], .int .i64 1, .int .i64 f], (haD f) = true, (!(haD f)) = false]) mo (by kernel_rfl) (ps_cons q0 (ps_cons (neg_f q1) (ps_cons q2 (ps_cons (neg_f q3) (ps_cons q4 (ps_cons (neg_f q5) (ps_cons ⟨_, _, rfl, ⟨of_decide_eq_true q0, of_decide_eq_true q1, of_decide_eq_true q2, of_decide_eq_true q3, .inl rfl, of_decide_eq_true q4, of_decide_eq_true q5⟩⟩ (ps_cons ⟨_, _, rfl, ⟨of_decide_eq_true q0, of_decide_eq_true q1, of_decide_eq_true q2, of_decide_eq_true q3, .inr rfl, of_decide_eq_true q4, of_decide_eq_true q5⟩⟩ (ps_cons q6 (ps_cons (neg_f q6) ps_nil)))))))))) ?_
 unfold soI soN soE mB fB
 rw [q0, q1, q2, q3, q4, q5, q6]
 rfl
theorem so1_leaf (m e f : Int) (hm : I64 m) (he : I64 e) (hp : I64 f) (q0 : (decide (m ≥ 0)) = false) : Gives P 20 #[.int .i64 m, .int .i64 e, .int .i64 f] (.tuple #[I (soI m e f), .int .i64 (soN m e f), .int .i64 (soE m e f)]) := by
 have _u := And.intro hm (And.intro he hp)
 refine gives_of_run (E := KE) (lv := 5) (ds := (.b false :: [])) (v := .tuple #[I (⟨0, 0, false⟩), .int .i64 0, .int .i64 2]) (ps := [(decide (m ≥ 0)) = false]) mo (by kernel_rfl) (ps_cons q0 ps_nil) ?_
 unfold soI soN soE mB fB
 rw [q0]
 rfl
theorem so2_leaf (m e f : Int) (hm : I64 m) (he : I64 e) (hp : I64 f) (q0 : (decide (m ≥ 0)) = true) (q1 : (decide (m ≤ 3221225472)) = false) : Gives P 20 #[.int .i64 m, .int .i64 e, .int .i64 f] (.tuple #[I (soI m e f), .int .i64 (soN m e f), .int .i64 (soE m e f)]) := by
 have _u := And.intro hm (And.intro he hp)
 refine gives_of_run (E := KE) (lv := 5) (ds := (.b true :: (.b true :: []))) (v := .tuple #[I (⟨0, 0, false⟩), .int .i64 0, .int .i64 2]) (ps := [(decide (m ≥ 0)) = true, (!(decide (m ≤ 3221225472))) = true]) mo (by kernel_rfl) (ps_cons q0 (ps_cons (neg_t q1) ps_nil)) ?_
 unfold soI soN soE mB fB
 rw [q0, q1]
 rfl
theorem so3_leaf (m e f : Int) (hm : I64 m) (he : I64 e) (hp : I64 f) (q0 : (decide (m ≥ 0)) = true) (q1 : (decide (m ≤ 3221225472)) = true) (q2 : (decide (e ≥ 0)) = false) : Gives P 20 #[.int .i64 m, .int .i64 e, .int .i64 f] (.tuple #[I (soI m e f), .int .i64 (soN m e f), .int .i64 (soE m e f)]) := by
 have _u := And.intro hm (And.intro he hp)
 refine gives_of_run (E := KE) (lv := 5) (ds := (.b true :: (.b false :: (.b false :: [])))) (v := .tuple #[I (⟨0, 0, false⟩), .int .i64 0, .int .i64 2]) (ps := [(decide (m ≥ 0)) = true, (!(decide (m ≤ 3221225472))) = false, (decide (e ≥ 0)) = false]) mo (by kernel_rfl) (ps_cons q0 (ps_cons (neg_f q1) (ps_cons q2 ps_nil))) ?_
 unfold soI soN soE mB fB
 rw [q0, q1, q2]
 rfl
theorem so4_leaf (m e f : Int) (hm : I64 m) (he : I64 e) (hp : I64 f) (q0 : (decide (m ≥ 0)) = true) (q1 : (decide (m ≤ 3221225472)) = true) (q2 : (decide (e ≥ 0)) = true) (q3 : (decide (e ≤ 966367641)) = false) : Gives P 20 #[.int .i64 m, .int .i64 e, .int .i64 f] (.tuple #[I (soI m e f), .int .i64 (soN m e f), .int .i64 (soE m e f)]) := by
 have _u := And.intro hm (And.intro he hp)
 refine gives_of_run (E := KE) (lv := 5) (ds := (.b true :: (.b false :: (.b true :: (.b true :: []))))) (v := .tuple #[I (⟨0, 0, false⟩), .int .i64 0, .int .i64 2]) (ps := [(decide (m ≥ 0)) = true, (!(decide (m ≤ 3221225472))) = false, (decide (e ≥ 0)) = true, (!(decide (e ≤ 966367641))) = true]) mo (by kernel_rfl) (ps_cons q0 (ps_cons (neg_f q1) (ps_cons q2 (ps_cons (neg_t q3) ps_nil)))) ?_
 unfold soI soN soE mB fB
 rw [q0, q1, q2, q3]
 rfl
theorem so5_leaf (m e f : Int) (hm : I64 m) (he : I64 e) (hp : I64 f) (q0 : (decide (m ≥ 0)) = true) (q1 : (decide (m ≤ 3221225472)) = true) (q2 : (decide (e ≥ 0)) = true) (q3 : (decide (e ≤ 966367641)) = true) (q4 : (decide (f ≥ 0)) = false) : Gives P 20 #[.int .i64 m, .int .i64 e, .int .i64 f] (.tuple #[I (soI m e f), .int .i64 (soN m e f), .int .i64 (soE m e f)]) := by
 have _u := And.intro hm (And.intro he hp)
 refine gives_of_run (E := KE) (lv := 5) (ds := (.b true :: (.b false :: (.b true :: (.b false :: (.b false :: [])))))) (v := .tuple #[I (⟨0, 0, false⟩), .int .i64 0, .int .i64 2]) (ps := [(decide (m ≥ 0)) = true, (!(decide (m ≤ 3221225472))) = false, (decide (e ≥ 0)) = true, (!(decide (e ≤ 966367641))) = false, (decide (f ≥ 0)) = false]) mo (by kernel_rfl) (ps_cons q0 (ps_cons (neg_f q1) (ps_cons q2 (ps_cons (neg_f q3) (ps_cons q4 ps_nil))))) ?_
 unfold soI soN soE mB fB
 rw [q0, q1, q2, q3, q4]
 rfl
theorem so6_leaf (m e f : Int) (hm : I64 m) (he : I64 e) (hp : I64 f) (q0 : (decide (m ≥ 0)) = true) (q1 : (decide (m ≤ 3221225472)) = true) (q2 : (decide (e ≥ 0)) = true) (q3 : (decide (e ≤ 966367641)) = true) (q4 : (decide (f ≥ 0)) = true) (q5 : (decide (f ≤ 40)) = false) : Gives P 20 #[.int .i64 m, .int .i64 e, .int .i64 f] (.tuple #[I (soI m e f), .int .i64 (soN m e f), .int .i64 (soE m e f)]) := by
 have _u := And.intro hm (And.intro he hp)
 refine gives_of_run (E := KE) (lv := 5) (ds := (.b true :: (.b false :: (.b true :: (.b false :: (.b true :: (.b true :: []))))))) (v := .tuple #[I (⟨0, 0, false⟩), .int .i64 0, .int .i64 2]) (ps := [(decide (m ≥ 0)) = true, (!(decide (m ≤ 3221225472))) = false, (decide (e ≥ 0)) = true, (!(decide (e ≤ 966367641))) = false, (decide (f ≥ 0)) = true, (!(decide (f ≤ 40))) = true]) mo (by kernel_rfl) (ps_cons q0 (ps_cons (neg_f q1) (ps_cons q2 (ps_cons (neg_f q3) (ps_cons q4 (ps_cons (neg_t q5) ps_nil)))))) ?_
 unfold soI soN soE mB fB
 rw [q0, q1, q2, q3, q4, q5]
 rfl
theorem so7_leaf (m e f : Int) (hm : I64 m) (he : I64 e) (hp : I64 f) (q0 : (decide (m ≥ 0)) = true) (q1 : (decide (m ≤ 3221225472)) = true) (q2 : (decide (e ≥ 0)) = true) (q3 : (decide (e ≤ 966367641)) = true) (q4 : (decide (f ≥ 0)) = true) (q5 : (decide (f ≤ 40)) = true) (q6 : (haD f) = false) : Gives P 20 #[.int .i64 m, .int .i64 e, .int .i64 f] (.tuple #[I (soI m e f), .int .i64 (soN m e f), .int .i64 (soE m e f)]) := by
 have _u := And.intro hm (And.intro he hp)
 refine gives_of_run (E := KE) (lv := 5) (ds := (.b true :: (.b false :: (.b true :: (.b false :: (.b true :: (.b false :: (.b false :: [])))))))) (v := .tuple #[I (⟨haA m e (-1) f, haA m e 1 f, false⟩), .int .i64 (IntKind.i64.wrap (haN f + (haN f))), .int .i64 200]) (ps := [(decide (m ≥ 0)) = true, (!(decide (m ≤ 3221225472))) = false, (decide (e ≥ 0)) = true, (!(decide (e ≤ 966367641))) = false, (decide (f ≥ 0)) = true, (!(decide (f ≤ 40))) = false, haP [.agg #[.int .i64 m, .int .i64 e], .int .i64 (-1), .int .i64 f], haP [.agg #[.int .i64 m, .int .i64 e], .int .i64 1, .int .i64 f], (haD f) = false]) mo (by kernel_rfl) (ps_cons q0 (ps_cons (neg_f q1) (ps_cons q2 (ps_cons (neg_f q3) (ps_cons q4 (ps_cons (neg_f q5) (ps_cons ⟨_, _, rfl, ⟨of_decide_eq_true q0, of_decide_eq_true q1, of_decide_eq_true q2, of_decide_eq_true q3, .inl rfl, of_decide_eq_true q4, of_decide_eq_true q5⟩⟩ (ps_cons ⟨_, _, rfl, ⟨of_decide_eq_true q0, of_decide_eq_true q1, of_decide_eq_true q2, of_decide_eq_true q3, .inr rfl, of_decide_eq_true q4, of_decide_eq_true q5⟩⟩ (ps_cons q6 ps_nil))))))))) ?_
 unfold soI soN soE mB fB
 rw [q0, q1, q2, q3, q4, q5, q6]
 rfl
theorem so_gives (args : List Value) (h : i3P args) : Gives P 20 args.toArray ((soV) args) := by
 unfold i3P at h
 split at h
 · rename_i m e f
   obtain ⟨hm, he, hp⟩ := h
   show Gives P _ #[.int .i64 m, .int .i64 e, .int .i64 f] (.tuple #[I (soI m e f), .int .i64 (soN m e f), .int .i64 (soE m e f)])
   cases q0 : (decide (m ≥ 0)) with
   | true =>
    cases q1 : (decide (m ≤ 3221225472)) with
    | true =>
     cases q2 : (decide (e ≥ 0)) with
     | true =>
      cases q3 : (decide (e ≤ 966367641)) with
      | true =>
       cases q4 : (decide (f ≥ 0)) with
       | true =>
        cases q5 : (decide (f ≤ 40)) with
        | true =>
         cases q6 : (haD f) with
         | true =>
          exact so0_leaf m e f hm he hp q0 q1 q2 q3 q4 q5 q6
         | false =>
          exact so7_leaf m e f hm he hp q0 q1 q2 q3 q4 q5 q6
        | false =>
         exact so6_leaf m e f hm he hp q0 q1 q2 q3 q4 q5
       | false =>
        exact so5_leaf m e f hm he hp q0 q1 q2 q3 q4
      | false =>
       exact so4_leaf m e f hm he hp q0 q1 q2 q3
     | false =>
      exact so3_leaf m e f hm he hp q0 q1 q2
    | false =>
     exact so2_leaf m e f hm he hp q0 q1
   | false =>
    exact so1_leaf m e f hm he hp q0
 · exact h.elim
noncomputable def cSo : Ctr P := ⟨20, i3P, soV, so_gives⟩
noncomputable def KB : Env P := ⟨⟨[cSo, cSign], []⟩, [], 20, []⟩
def nrP (m e : Int) : Int := bif soE m e 40 == 2 then 0 else (IntKind.i64.wrap ((soI m e 40).lo + ((soI m e 40).hi))).fdiv (2 ^ 1)
def nrR (m e : Int) : Int := bif soE m e 40 == 2 then 0 else mx (IntKind.i64.wrap ((soI m e 40).hi - ((IntKind.i64.wrap ((soI m e 40).lo + ((soI m e 40).hi))).fdiv (2 ^ 1)))) (IntKind.i64.wrap ((IntKind.i64.wrap ((soI m e 40).lo + ((soI m e 40).hi))).fdiv (2 ^ 1) - ((soI m e 40).lo)))
def nrE (m e : Int) : Int := bif soE m e 40 == 2 then 2 else 0
def nrV : List Value → Value
 | [.int _ m, .int _ e] => .tuple #[.int .i64 (nrP m e), .int .i64 (nrR m e), .int .i64 (nrE m e)]
 | _ => undef
theorem nr0_leaf (m e : Int) (hm : I64 m) (he : I64 e) (q0 : (soE m e 40 == 2) = true) : Gives P 34 #[.int .i64 m, .int .i64 e] (.tuple #[.int .i64 (nrP m e), .int .i64 (nrR m e), .int .i64 (nrE m e)]) := by
 refine gives_of_run (E := KB) (lv := 1) (ds := (.b true :: [])) (v := .tuple #[.int .i64 0, .int .i64 0, .int .i64 (soE m e 40)]) (ps := [i3P [.int .i64 m, .int .i64 e, .int .i64 40], (soE m e 40 == 2) = true]) mo (by kernel_rfl) (ps_cons ⟨hm, he, by unfold I64; omega⟩ (ps_cons q0 ps_nil)) ?_
 unfold nrP nrR nrE
 rw [q0]
 have e := (beq_iff_eq.1 q0)
 first | rfl | (rw [e]; rfl)
theorem nr1_leaf (m e : Int) (hm : I64 m) (he : I64 e) (q0 : (soE m e 40 == 2) = false) : Gives P 34 #[.int .i64 m, .int .i64 e] (.tuple #[.int .i64 (nrP m e), .int .i64 (nrR m e), .int .i64 (nrE m e)]) := by
 refine gives_of_run (E := KB) (lv := 1) (ds := (.b false :: [])) (v := .tuple #[.int .i64 ((IntKind.i64.wrap ((soI m e 40).lo + ((soI m e 40).hi))).fdiv (2 ^ 1)), .int .i64 (mx (IntKind.i64.wrap ((soI m e 40).hi - ((IntKind.i64.wrap ((soI m e 40).lo + ((soI m e 40).hi))).fdiv (2 ^ 1)))) (IntKind.i64.wrap ((IntKind.i64.wrap ((soI m e 40).lo + ((soI m e 40).hi))).fdiv (2 ^ 1) - ((soI m e 40).lo)))), .int .i64 0]) (ps := [i3P [.int .i64 m, .int .i64 e, .int .i64 40], (soE m e 40 == 2) = false]) mo (by kernel_rfl) (ps_cons ⟨hm, he, by unfold I64; omega⟩ (ps_cons q0 ps_nil)) ?_
 unfold nrP nrR nrE
 rw [q0]
 rfl
theorem nr_gives (args : List Value) (h : i2P args) : Gives P 34 args.toArray ((nrV) args) := by
 unfold i2P at h
 split at h
 · rename_i m e
   obtain ⟨hm, he⟩ := h
   show Gives P _ #[.int .i64 m, .int .i64 e] (.tuple #[.int .i64 (nrP m e), .int .i64 (nrR m e), .int .i64 (nrE m e)])
   cases q0 : (soE m e 40 == 2) with
   | true =>
    exact nr0_leaf m e hm he q0
   | false =>
    exact nr1_leaf m e hm he q0
 · exact h.elim
noncomputable def cNr : Ctr P := ⟨34, i2P, nrV, nr_gives⟩
noncomputable def kepC : List (Ctr P) := [cSo, cNr]
end Go.Ke
