/-
 Contracts of gyreref06: roots, inverses, cubes, signs. Printed by rf6b.py.
-/
import Derived.Test.YtekplphjbngabaaGreatDoorRf6
import Derived.Test.YtekplphjbngabaaGreatDoorRf4
set_option maxRecDepth 100000
namespace Go.R6
open Go Go.RowKit Go.Sx Go.Nm Go.Wd Go.Qt Go.Iv Go.Nv Go.Rt Go.Proofs
def RLo (a : Iv) : Int := tI (W (if 0 ≤ tI (W (a.lo * 1073741824)) then rt (tI (W (a.lo * 1073741824))) else 0))
def RHi (a : Iv) : Int := tI (W (if 0 ≤ tI (W (a.hi * 1073741824)) then rc (tI (W (a.hi * 1073741824))) else 0))
def XLo (a : Iv) : Int := rootE (tI (W (a.lo * 1073741824)))
def XHi (a : Iv) : Int := rootE (tI (W (a.hi * 1073741824)))
structure RG (a : Iv) : Prop where
 i1 : I64 a.lo
 i2 : I64 a.hi
 e1 : XLo a = 0
 e2 : XHi a = 0
 l : RLo a = rt (a.lo * 1073741824)
 h : RHi a = rc (a.hi * 1073741824)
theorem rG {a : Iv} (hf : fineL [a] = true) (hl : decide (a.lo < 0) = false) : RG a := by
 rw [fine1] at hf
 have ra := fine_iff.1 hf
 have h0 : 0 ≤ a.lo := by have := of_decide_eq_false hl; omega
 have r1 : InR (a.lo * 1073741824) := by unfold InR HH; omega
 have r2 : InR (a.hi * 1073741824) := by unfold InR HH; omega
 have p1 : 0 ≤ a.lo * 1073741824 := by omega
 have p2 : 0 ≤ a.hi * 1073741824 := by omega
 have e1 := tI_in r1
 have e2 := tI_in r2
 have c1 := rc_facts p1 r1
 have c2 := rc_facts p2 r2
 have hc : InR (rc (a.hi * 1073741824)) := by
  unfold rc; split
  · exact c2.1
  · exact c2.2.2
 refine ⟨by unfold I64; omega, by unfold I64; omega, ?_, ?_, ?_, ?_⟩
 · unfold XLo rootE; rw [e1, if_pos p1]
 · unfold XHi rootE; rw [e2, if_pos p2]
 · unfold RLo; rw [e1, if_pos p1, tI_in c1.1]
 · unfold RHi; rw [e2, if_pos p2, tI_in hc]
theorem rT {a : Iv} (hf : fineL [a] = true) (hl : decide (a.lo < 0) = false) : rootI a = told ⟨RLo a, RHi a, false⟩ := by
 rw [(rG hf hl).l, (rG hf hl).h]
 have h0 : 0 ≤ a.lo := by have := of_decide_eq_false hl; omega
 unfold rootI; rw [hf, decide_eq_true h0]; rfl
noncomputable def G1 : Env P := ⟨⟨[cOnes, R4.rFloor, R4.rCeil] ++ Rd.refC, [rFine]⟩, [], 20, []⟩
theorem gr0_leaf (a : Iv)  (q0 : (fineL [a]) = true) (q1 : (decide (a.lo < 0)) = true) : Gives P 38 #[I a] (I (rootI a)) := by
 refine gives_of_run (E := G1) (lv := 2) (ds := (.lit :: (.b false :: (.b true :: [])))) (v := I (⟨0, 0, true⟩)) (ps := [fineP [ivs [a]], (!(fineL [a])) = false, (decide (a.lo < 0)) = true]) mo (by kernel_rfl) (ps_cons (ivs_ok (by simp)) (ps_cons (neg_f q0) (ps_cons q1 ps_nil))) ?_
 unfold rootI
 rw [q0, decide_eq_false (show ¬ 0 ≤ a.lo by have := of_decide_eq_true q1; omega)]
 rfl
theorem gr1_leaf (a : Iv)  (q0 : (fineL [a]) = false) : Gives P 38 #[I a] (I (rootI a)) := by
 refine gives_of_run (E := G1) (lv := 2) (ds := (.lit :: (.b true :: []))) (v := I (⟨0, 0, true⟩)) (ps := [fineP [ivs [a]], (!(fineL [a])) = true]) mo (by kernel_rfl) (ps_cons (ivs_ok (by simp)) (ps_cons (neg_t q0) ps_nil)) ?_
 unfold rootI
 rw [q0]
 rfl
theorem gr2_leaf (a : Iv)  (q0 : (fineL [a]) = true) (q1 : (decide (a.lo < 0)) = false) (q2 : (XLo a != 0) = false) (q3 : (XHi a != 0) = false) (q4 : (i64B (RLo a)) = true) (q5 : (i64B (RHi a)) = true) (q6 : (fineL [⟨(if i64B (RLo a) then RLo a else 0), (if i64B (RHi a) then RHi a else 0), false⟩]) = true) : Gives P 38 #[I a] (I (rootI a)) := by
 refine gives_of_run (E := G1) (lv := 2) (ds := (.lit :: (.b false :: (.b false :: (.b false :: (.b false :: (.b false :: (.b false :: (.lit :: (.b false :: [])))))))))) (v := I (⟨(if i64B (RLo a) then RLo a else 0), (if i64B (RHi a) then RHi a else 0), false⟩)) (ps := [fineP [ivs [a]], (!(fineL [a])) = false, (decide (a.lo < 0)) = false, ofP [.int .i64 a.lo], P1 [W (a.lo * 1073741824)], ofP [.int .i64 a.hi], P1 [W (a.hi * 1073741824)], P1 [W (if 0 ≤ tI (W (a.lo * 1073741824)) then rt (tI (W (a.lo * 1073741824))) else 0)], P1 [W (if 0 ≤ tI (W (a.hi * 1073741824)) then rc (tI (W (a.hi * 1073741824))) else 0)], (XLo a != 0) = false, (XHi a != 0) = false, (!(i64B (RLo a))) = false, (!(i64B (RHi a))) = false, fineP [ivs [⟨(if i64B (RLo a) then RLo a else 0), (if i64B (RHi a) then RHi a else 0), false⟩]], (!(fineL [⟨(if i64B (RLo a) then RLo a else 0), (if i64B (RHi a) then RHi a else 0), false⟩])) = false]) mo (by kernel_rfl) (ps_cons (ivs_ok (by simp)) (ps_cons (neg_f q0) (ps_cons q1 (ps_cons (rG q0 q1).i1 (ps_cons (P1_W _) (ps_cons (rG q0 q1).i2 (ps_cons (P1_W _) (ps_cons (P1_W _) (ps_cons (P1_W _) (ps_cons q2 (ps_cons q3 (ps_cons (neg_f q4) (ps_cons (neg_f q5) (ps_cons (ivs_ok (by simp)) (ps_cons (neg_f q6) ps_nil))))))))))))))) ?_
 rw [if_pos q4, if_pos q5] at q6 ⊢
 rw [rT q0 q1, told_ok (fine1 ▸ q6)]
theorem gr3_leaf (a : Iv)  (q0 : (fineL [a]) = true) (q1 : (decide (a.lo < 0)) = false) (q2 : (XLo a != 0) = false) (q3 : (XHi a != 0) = false) (q4 : (i64B (RLo a)) = false) : Gives P 38 #[I a] (I (rootI a)) := by
 refine gives_of_run (E := G1) (lv := 3) (ds := (.lit :: (.b false :: (.b false :: (.b false :: (.b false :: (.b true :: []))))))) (v := I (⟨0, 0, true⟩)) (ps := [fineP [ivs [a]], (!(fineL [a])) = false, (decide (a.lo < 0)) = false, ofP [.int .i64 a.lo], P1 [W (a.lo * 1073741824)], ofP [.int .i64 a.hi], P1 [W (a.hi * 1073741824)], P1 [W (if 0 ≤ tI (W (a.lo * 1073741824)) then rt (tI (W (a.lo * 1073741824))) else 0)], P1 [W (if 0 ≤ tI (W (a.hi * 1073741824)) then rc (tI (W (a.hi * 1073741824))) else 0)], (XLo a != 0) = false, (XHi a != 0) = false, (!(i64B (RLo a))) = true]) mo (by kernel_rfl) (ps_cons (ivs_ok (by simp)) (ps_cons (neg_f q0) (ps_cons q1 (ps_cons (rG q0 q1).i1 (ps_cons (P1_W _) (ps_cons (rG q0 q1).i2 (ps_cons (P1_W _) (ps_cons (P1_W _) (ps_cons (P1_W _) (ps_cons q2 (ps_cons q3 (ps_cons (neg_t q4) ps_nil)))))))))))) ?_
 rw [rT q0 q1, told_out (.inl q4)]
 rfl
theorem gr4_leaf (a : Iv)  (q0 : (fineL [a]) = true) (q1 : (decide (a.lo < 0)) = false) (q2 : (XLo a != 0) = false) (q3 : (XHi a != 0) = false) (q4 : (i64B (RLo a)) = true) (q5 : (i64B (RHi a)) = false) : Gives P 38 #[I a] (I (rootI a)) := by
 refine gives_of_run (E := G1) (lv := 3) (ds := (.lit :: (.b false :: (.b false :: (.b false :: (.b false :: (.b false :: (.b true :: [])))))))) (v := I (⟨0, 0, true⟩)) (ps := [fineP [ivs [a]], (!(fineL [a])) = false, (decide (a.lo < 0)) = false, ofP [.int .i64 a.lo], P1 [W (a.lo * 1073741824)], ofP [.int .i64 a.hi], P1 [W (a.hi * 1073741824)], P1 [W (if 0 ≤ tI (W (a.lo * 1073741824)) then rt (tI (W (a.lo * 1073741824))) else 0)], P1 [W (if 0 ≤ tI (W (a.hi * 1073741824)) then rc (tI (W (a.hi * 1073741824))) else 0)], (XLo a != 0) = false, (XHi a != 0) = false, (!(i64B (RLo a))) = false, (!(i64B (RHi a))) = true]) mo (by kernel_rfl) (ps_cons (ivs_ok (by simp)) (ps_cons (neg_f q0) (ps_cons q1 (ps_cons (rG q0 q1).i1 (ps_cons (P1_W _) (ps_cons (rG q0 q1).i2 (ps_cons (P1_W _) (ps_cons (P1_W _) (ps_cons (P1_W _) (ps_cons q2 (ps_cons q3 (ps_cons (neg_f q4) (ps_cons (neg_t q5) ps_nil))))))))))))) ?_
 rw [rT q0 q1, told_out (.inr q5)]
 rfl
theorem gr5_leaf (a : Iv)  (q0 : (fineL [a]) = true) (q1 : (decide (a.lo < 0)) = false) (q2 : (XLo a != 0) = false) (q3 : (XHi a != 0) = false) (q4 : (i64B (RLo a)) = true) (q5 : (i64B (RHi a)) = true) (q6 : (fineL [⟨(if i64B (RLo a) then RLo a else 0), (if i64B (RHi a) then RHi a else 0), false⟩]) = false) : Gives P 38 #[I a] (I (rootI a)) := by
 refine gives_of_run (E := G1) (lv := 3) (ds := (.lit :: (.b false :: (.b false :: (.b false :: (.b false :: (.b false :: (.b false :: (.lit :: (.b true :: [])))))))))) (v := I (⟨0, 0, true⟩)) (ps := [fineP [ivs [a]], (!(fineL [a])) = false, (decide (a.lo < 0)) = false, ofP [.int .i64 a.lo], P1 [W (a.lo * 1073741824)], ofP [.int .i64 a.hi], P1 [W (a.hi * 1073741824)], P1 [W (if 0 ≤ tI (W (a.lo * 1073741824)) then rt (tI (W (a.lo * 1073741824))) else 0)], P1 [W (if 0 ≤ tI (W (a.hi * 1073741824)) then rc (tI (W (a.hi * 1073741824))) else 0)], (XLo a != 0) = false, (XHi a != 0) = false, (!(i64B (RLo a))) = false, (!(i64B (RHi a))) = false, fineP [ivs [⟨(if i64B (RLo a) then RLo a else 0), (if i64B (RHi a) then RHi a else 0), false⟩]], (!(fineL [⟨(if i64B (RLo a) then RLo a else 0), (if i64B (RHi a) then RHi a else 0), false⟩])) = true]) mo (by kernel_rfl) (ps_cons (ivs_ok (by simp)) (ps_cons (neg_f q0) (ps_cons q1 (ps_cons (rG q0 q1).i1 (ps_cons (P1_W _) (ps_cons (rG q0 q1).i2 (ps_cons (P1_W _) (ps_cons (P1_W _) (ps_cons (P1_W _) (ps_cons q2 (ps_cons q3 (ps_cons (neg_f q4) (ps_cons (neg_f q5) (ps_cons (ivs_ok (by simp)) (ps_cons (neg_t q6) ps_nil))))))))))))))) ?_
 rw [if_pos q4, if_pos q5] at q6
 rw [rT q0 q1, told_no (fine1 ▸ q6)]
 rfl
theorem gr_gives (args : List Value) (h : iP1 args) : Gives P 38 args.toArray ((one1 fun a => I (rootI a)) args) := by
 unfold iP1 at h
 split at h
 · obtain ⟨a, rfl⟩ := h
   show Gives P _ #[I a] (I (rootI a))
   cases q0 : (fineL [a]) with
   | true =>
    cases q1 : (decide (a.lo < 0)) with
    | true =>
     exact gr0_leaf a  q0 q1
    | false =>
     have q2 : (XLo a != 0) = false := by rw [(rG q0 q1).e1]; rfl
     have q3 : (XHi a != 0) = false := by rw [(rG q0 q1).e2]; rfl
     cases q4 : (i64B (RLo a)) with
     | true =>
      cases q5 : (i64B (RHi a)) with
      | true =>
       cases q6 : (fineL [⟨(if i64B (RLo a) then RLo a else 0), (if i64B (RHi a) then RHi a else 0), false⟩]) with
       | true =>
        exact gr2_leaf a  q0 q1 q2 q3 q4 q5 q6
       | false =>
        exact gr5_leaf a  q0 q1 q2 q3 q4 q5 q6
      | false =>
       exact gr4_leaf a  q0 q1 q2 q3 q4 q5
     | false =>
      exact gr3_leaf a  q0 q1 q2 q3 q4
   | false =>
    exact gr1_leaf a  q0
 · exact h.elim
noncomputable def cR6 : Ctr P := ⟨38, iP1, one1 fun a => I (rootI a), gr_gives⟩
noncomputable def G4 : Env P := ⟨⟨[], [rFine]⟩, [], 20, []⟩
theorem gz0_leaf (a : Iv)  (q0 : (fineL [a]) = true) (q1 : (decide (a.lo > 0)) = true) : Gives P 162 #[I a] (.tuple #[.int .i64 (signN a), .bool (signB a)]) := by
 refine gives_of_run (E := G4) (lv := 1) (ds := (.lit :: (.b false :: (.b true :: [])))) (v := .tuple #[.int .i64 1, .bool true]) (ps := [fineP [ivs [a]], (!(fineL [a])) = false, (decide (a.lo > 0)) = true]) mo (by kernel_rfl) (ps_cons (ivs_ok (by simp)) (ps_cons (neg_f q0) (ps_cons q1 ps_nil))) ?_
 have fa : fine a = true := fine1 ▸ q0
 have ra := fine_iff.1 fa
 unfold signN signB
 rw [q0]
 rw [if_pos (of_decide_eq_true q1), decide_eq_true (of_decide_eq_true q1)]
 rfl
theorem gz1_leaf (a : Iv)  (q0 : (fineL [a]) = false) : Gives P 162 #[I a] (.tuple #[.int .i64 (signN a), .bool (signB a)]) := by
 refine gives_of_run (E := G4) (lv := 1) (ds := (.lit :: (.b true :: []))) (v := .tuple #[.int .i64 0, .bool false]) (ps := [fineP [ivs [a]], (!(fineL [a])) = true]) mo (by kernel_rfl) (ps_cons (ivs_ok (by simp)) (ps_cons (neg_t q0) ps_nil)) ?_
 unfold signN signB
 rw [q0]
 rfl
theorem gz2_leaf (a : Iv)  (q0 : (fineL [a]) = true) (q1 : (decide (a.lo > 0)) = false) (q2 : (decide (a.hi < 0)) = true) : Gives P 162 #[I a] (.tuple #[.int .i64 (signN a), .bool (signB a)]) := by
 refine gives_of_run (E := G4) (lv := 1) (ds := (.lit :: (.b false :: (.b false :: (.b true :: []))))) (v := .tuple #[.int .i64 (-1), .bool true]) (ps := [fineP [ivs [a]], (!(fineL [a])) = false, (decide (a.lo > 0)) = false, (decide (a.hi < 0)) = true]) mo (by kernel_rfl) (ps_cons (ivs_ok (by simp)) (ps_cons (neg_f q0) (ps_cons q1 (ps_cons q2 ps_nil)))) ?_
 have fa : fine a = true := fine1 ▸ q0
 have ra := fine_iff.1 fa
 unfold signN signB
 rw [q0]
 have n1 := of_decide_eq_false q1
 rw [if_neg n1, if_pos (of_decide_eq_true q2), q1, decide_eq_true (of_decide_eq_true q2)]
 rfl
theorem gz3_leaf (a : Iv)  (q0 : (fineL [a]) = true) (q1 : (decide (a.lo > 0)) = false) (q2 : (decide (a.hi < 0)) = false) (q3 : (a.lo == 0) = true) : Gives P 162 #[I a] (.tuple #[.int .i64 (signN a), .bool (signB a)]) := by
 refine gives_of_run (E := G4) (lv := 1) (ds := (.lit :: (.b false :: (.b false :: (.b false :: (.b true :: [])))))) (v := .tuple #[.int .i64 0, .bool (a.hi == 0)]) (ps := [fineP [ivs [a]], (!(fineL [a])) = false, (decide (a.lo > 0)) = false, (decide (a.hi < 0)) = false, (a.lo == 0) = true]) mo (by kernel_rfl) (ps_cons (ivs_ok (by simp)) (ps_cons (neg_f q0) (ps_cons q1 (ps_cons q2 (ps_cons q3 ps_nil))))) ?_
 have fa : fine a = true := fine1 ▸ q0
 have ra := fine_iff.1 fa
 unfold signN signB
 rw [q0]
 have n1 := of_decide_eq_false q1
 have n2 := of_decide_eq_false q2
 rw [if_neg n1, if_neg n2, q1, q2]
 have z : a.lo = 0 := by simpa using q3
 have e : (a.hi == 0) = decide (a.hi = a.lo) := by rw [z]; rfl
 show Value.tuple #[.int .i64 0, .bool (a.hi == 0)] = Value.tuple #[.int .i64 0, .bool (decide (a.hi = a.lo))]
 rw [e]
theorem gz4_leaf (a : Iv)  (q0 : (fineL [a]) = true) (q1 : (decide (a.lo > 0)) = false) (q2 : (decide (a.hi < 0)) = false) (q3 : (a.lo == 0) = false) : Gives P 162 #[I a] (.tuple #[.int .i64 (signN a), .bool (signB a)]) := by
 refine gives_of_run (E := G4) (lv := 1) (ds := (.lit :: (.b false :: (.b false :: (.b false :: (.b false :: [])))))) (v := .tuple #[.int .i64 0, .bool false]) (ps := [fineP [ivs [a]], (!(fineL [a])) = false, (decide (a.lo > 0)) = false, (decide (a.hi < 0)) = false, (a.lo == 0) = false]) mo (by kernel_rfl) (ps_cons (ivs_ok (by simp)) (ps_cons (neg_f q0) (ps_cons q1 (ps_cons q2 (ps_cons q3 ps_nil))))) ?_
 have fa : fine a = true := fine1 ▸ q0
 have ra := fine_iff.1 fa
 unfold signN signB
 rw [q0]
 have n1 := of_decide_eq_false q1
 have n2 := of_decide_eq_false q2
 rw [if_neg n1, if_neg n2, q1, q2]
 have z : ¬ a.lo = 0 := by simpa using q3
 have e : decide (a.hi = a.lo) = false := decide_eq_false (by omega)
 show Value.tuple #[.int .i64 0, .bool false] = Value.tuple #[.int .i64 0, .bool (decide (a.hi = a.lo))]
 rw [e]
theorem gz_gives (args : List Value) (h : iP1 args) : Gives P 162 args.toArray ((one1 fun a => .tuple #[.int .i64 (signN a), .bool (signB a)]) args) := by
 unfold iP1 at h
 split at h
 · obtain ⟨a, rfl⟩ := h
   show Gives P _ #[I a] (.tuple #[.int .i64 (signN a), .bool (signB a)])
   cases q0 : (fineL [a]) with
   | true =>
    cases q1 : (decide (a.lo > 0)) with
    | true =>
     exact gz0_leaf a  q0 q1
    | false =>
     cases q2 : (decide (a.hi < 0)) with
     | true =>
      exact gz2_leaf a  q0 q1 q2
     | false =>
      cases q3 : (a.lo == 0) with
      | true =>
       exact gz3_leaf a  q0 q1 q2 q3
      | false =>
       exact gz4_leaf a  q0 q1 q2 q3
   | false =>
    exact gz1_leaf a  q0
 · exact h.elim
noncomputable def cS6 : Ctr P := ⟨162, iP1, one1 fun a => .tuple #[.int .i64 (signN a), .bool (signB a)], gz_gives⟩
noncomputable def ref6D : List (Ctr P) := [cSq6, cR6, cS6]
end Go.R6
