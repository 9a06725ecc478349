/-
 Contracts of gyreref06: squares, quotients. Printed by rf6.py.
-/
import Derived.Test.YtekplphjbngabaaGreatDoorIna
import Derived.Test.YtekplphjbngabaaGreatDoorRf5
set_option maxRecDepth 100000
namespace Go.R6
open Go Go.RowKit Go.Sx Go.Nm Go.Wd Go.Qt Go.Iv Go.Nv Go.Rt Go.Proofs
def lW (a : Iv) : Int := mx (mx a.lo (IntKind.i64.wrap (0 - a.hi))) 0
def mW (a : Iv) : Int := mx a.hi (IntKind.i64.wrap (0 - a.lo))
def QL (a : Iv) : Int := qv fq (tI (W (tI (W (lW a)) * tI (W (lW a))))) (tI (W 1073741824))
def QM (a : Iv) : Int := qv cq (tI (W (tI (W (mW a)) * tI (W (mW a))))) (tI (W 1073741824))
def XL (a : Iv) : Int := qe (tI (W (tI (W (lW a)) * tI (W (lW a))))) (tI (W 1073741824))
def XM (a : Iv) : Int := qe (tI (W (tI (W (mW a)) * tI (W (mW a))))) (tI (W 1073741824))
structure SqG (a : Iv) : Prop where
 i1 : I64 (lW a)
 i2 : I64 (mW a)
 e1 : XL a = 0
 e2 : XM a = 0
 el : tI (W (QL a)) = fq (least a * least a) 1073741824
 eh : tI (W (QM a)) = cq (most a * most a) 1073741824
theorem sqG {a : Iv} (hf : fineL [a] = true) : SqG a := by
 rw [fine1] at hf
 have ra := fine_iff.1 hf
 have w1 : IntKind.i64.wrap (0 - a.hi) = -a.hi := by rw [Int.zero_sub]; exact wr (by omega) (by omega)
 have w2 : IntKind.i64.wrap (0 - a.lo) = -a.lo := by rw [Int.zero_sub]; exact wr (by omega) (by omega)
 have el : lW a = least a := by unfold lW; rw [w1]; rfl
 have em : mW a = most a := by unfold mW; rw [w2]; rfl
 have l0 := (least_spec hf).1
 have m0 := most_spec hf
 have l1 : least a ≤ 1152921504606846976 := by
  rcases (least_spec hf).2.1 a.lo (Int.le_refl _) (by omega) with h | h <;> omega
 have i1 : I64 (least a) := by unfold I64; omega
 have i2 : I64 (most a) := by unfold I64; omega
 have s1 := smmul i1 i1
 have s2 := smmul i2 i2
 have so := sm64 i64one
 have f1 : tI (W (least a)) = least a := tI_in (inR64 i1)
 have f2 : tI (W (most a)) = most a := tI_in (inR64 i2)
 have e1 : tI (W (least a * least a)) = least a * least a := tI_in (inR_of s1)
 have e2 : tI (W (most a * most a)) = most a * most a := tI_in (inR_of s2)
 have e3 : tI (W 1073741824) = 1073741824 := tI_in (inR_of so)
 refine ⟨by rw [el]; exact i1, by rw [em]; exact i2, ?_, ?_, ?_, ?_⟩
 · unfold XL; rw [el, f1, e1, e3, qe_ok s1 so (by decide)]
 · unfold XM; rw [em, f2, e2, e3, qe_ok s2 so (by decide)]
 · unfold QL; rw [el, f1, e1, e3, qv_ok fq s1 so (by decide), tI_in (fl_facts s1 so (by decide)).2.2.2.1]
 · unfold QM; rw [em, f2, e2, e3, qv_ok cq s2 so (by decide), tI_in (cq_in s2 so (by decide))]
theorem sqT {a : Iv} (hf : fineL [a] = true) : squareI a = told ⟨tI (W (QL a)), tI (W (QM a)), false⟩ := by
 rw [(sqG hf).el, (sqG hf).eh]
 unfold squareI; rw [hf]; rfl
theorem told_out {x y : Int} (h : i64B x = false ∨ i64B y = false) : told ⟨x, y, false⟩ = bd := by
 apply told_no
 rw [← Bool.not_eq_true]
 intro hf
 have r := fine_iff.1 hf
 simp only at r
 have k : i64B x = true ∧ i64B y = true := by
  unfold i64B
  simp only [Bool.and_eq_true, decide_eq_true_eq]
  omega
 rcases h with h | h
 · rw [k.1] at h; cases h
 · rw [k.2] at h; cases h
noncomputable def G0 : Env P := ⟨⟨[R3.cFloor, R3.cCeil] ++ Rd.refC, [rFine]⟩, [], 20, []⟩
theorem gs0_run (a : Iv) : runF P G0 2 39 [I a] (.lit :: (.b false :: (.b false :: (.b false :: (.b false :: (.b false :: (.lit :: (.b false :: [])))))))) =
 some (I (⟨(if i64B (tI (W (QL a))) then tI (W (QL a)) else 0), (if i64B (tI (W (QM a))) then tI (W (QM a)) else 0), false⟩), [fineP [ivs [a]], (!(fineL [a])) = false, ofP [.int .i64 (lW a)], ofP [.int .i64 (lW a)], P2 [W (lW a), W (lW a)], ofP [.int .i64 (mW a)], ofP [.int .i64 (mW a)], P2 [W (mW a), W (mW a)], ofP [.int .i64 1073741824], P2 [W (tI (W (lW a)) * tI (W (lW a))), W 1073741824], ofP [.int .i64 1073741824], P2 [W (tI (W (mW a)) * tI (W (mW a))), W 1073741824], P1 [W (QL a)], P1 [W (QM a)], (XL a != 0) = false, (XM a != 0) = false, (!(i64B (tI (W (QL a))))) = false, (!(i64B (tI (W (QM a))))) = false, fineP [ivs [⟨(if i64B (tI (W (QL a))) then tI (W (QL a)) else 0), (if i64B (tI (W (QM a))) then tI (W (QM a)) else 0), false⟩]], (!(fineL [⟨(if i64B (tI (W (QL a))) then tI (W (QL a)) else 0), (if i64B (tI (W (QM a))) then tI (W (QM a)) else 0), false⟩])) = false]) := by kernel_rfl
theorem gs0_leaf (a : Iv)  (q0 : (fineL [a]) = true) (q1 : (XL a != 0) = false) (q2 : (XM a != 0) = false) (q3 : (i64B (tI (W (QL a)))) = true) (q4 : (i64B (tI (W (QM a)))) = true) (q5 : (fineL [⟨(if i64B (tI (W (QL a))) then tI (W (QL a)) else 0), (if i64B (tI (W (QM a))) then tI (W (QM a)) else 0), false⟩]) = true) : Gives P 39 #[I a] (I (squareI a)) := by
 have R := gs0_run a
 refine gives_of_run mo R (ps_cons (ivs_ok (by simp)) (ps_cons (neg_f q0) (ps_cons (sqG q0).i1 (ps_cons (sqG q0).i1 (ps_cons (P2_W _ _) (ps_cons (sqG q0).i2 (ps_cons (sqG q0).i2 (ps_cons (P2_W _ _) (ps_cons i64one (ps_cons (P2_W _ _) (ps_cons i64one (ps_cons (P2_W _ _) (ps_cons (P1_W _) (ps_cons (P1_W _) (ps_cons q1 (ps_cons q2 (ps_cons (neg_f q3) (ps_cons (neg_f q4) (ps_cons (ivs_ok (by simp)) (ps_cons (neg_f q5) ps_nil)))))))))))))))))))) ?_
 rw [if_pos q3, if_pos q4] at q5 ⊢
 rw [sqT q0, told_ok (fine1 ▸ q5)]
theorem gs1_run (a : Iv) : runF P G0 2 39 [I a] (.lit :: (.b true :: [])) =
 some (I (⟨0, 0, true⟩), [fineP [ivs [a]], (!(fineL [a])) = true]) := by kernel_rfl
theorem gs1_leaf (a : Iv)  (q0 : (fineL [a]) = false) : Gives P 39 #[I a] (I (squareI a)) := by
 have R := gs1_run a
 refine gives_of_run mo R (ps_cons (ivs_ok (by simp)) (ps_cons (neg_t q0) ps_nil)) ?_
 unfold squareI
 rw [q0]
 rfl
theorem gs2_run (a : Iv) : runF P G0 3 39 [I a] (.lit :: (.b false :: (.b false :: (.b false :: (.b true :: []))))) =
 some (I (⟨0, 0, true⟩), [fineP [ivs [a]], (!(fineL [a])) = false, ofP [.int .i64 (lW a)], ofP [.int .i64 (lW a)], P2 [W (lW a), W (lW a)], ofP [.int .i64 (mW a)], ofP [.int .i64 (mW a)], P2 [W (mW a), W (mW a)], ofP [.int .i64 1073741824], P2 [W (tI (W (lW a)) * tI (W (lW a))), W 1073741824], ofP [.int .i64 1073741824], P2 [W (tI (W (mW a)) * tI (W (mW a))), W 1073741824], P1 [W (QL a)], P1 [W (QM a)], (XL a != 0) = false, (XM a != 0) = false, (!(i64B (tI (W (QL a))))) = true]) := by kernel_rfl
theorem gs2_leaf (a : Iv)  (q0 : (fineL [a]) = true) (q1 : (XL a != 0) = false) (q2 : (XM a != 0) = false) (q3 : (i64B (tI (W (QL a)))) = false) : Gives P 39 #[I a] (I (squareI a)) := by
 have R := gs2_run a
 refine gives_of_run mo R (ps_cons (ivs_ok (by simp)) (ps_cons (neg_f q0) (ps_cons (sqG q0).i1 (ps_cons (sqG q0).i1 (ps_cons (P2_W _ _) (ps_cons (sqG q0).i2 (ps_cons (sqG q0).i2 (ps_cons (P2_W _ _) (ps_cons i64one (ps_cons (P2_W _ _) (ps_cons i64one (ps_cons (P2_W _ _) (ps_cons (P1_W _) (ps_cons (P1_W _) (ps_cons q1 (ps_cons q2 (ps_cons (neg_t q3) ps_nil))))))))))))))))) ?_
 rw [sqT q0, told_out (.inl q3)]
 rfl
theorem gs3_run (a : Iv) : runF P G0 3 39 [I a] (.lit :: (.b false :: (.b false :: (.b false :: (.b false :: (.b true :: [])))))) =
 some (I (⟨0, 0, true⟩), [fineP [ivs [a]], (!(fineL [a])) = false, ofP [.int .i64 (lW a)], ofP [.int .i64 (lW a)], P2 [W (lW a), W (lW a)], ofP [.int .i64 (mW a)], ofP [.int .i64 (mW a)], P2 [W (mW a), W (mW a)], ofP [.int .i64 1073741824], P2 [W (tI (W (lW a)) * tI (W (lW a))), W 1073741824], ofP [.int .i64 1073741824], P2 [W (tI (W (mW a)) * tI (W (mW a))), W 1073741824], P1 [W (QL a)], P1 [W (QM a)], (XL a != 0) = false, (XM a != 0) = false, (!(i64B (tI (W (QL a))))) = false, (!(i64B (tI (W (QM a))))) = true]) := by kernel_rfl
theorem gs3_leaf (a : Iv)  (q0 : (fineL [a]) = true) (q1 : (XL a != 0) = false) (q2 : (XM a != 0) = false) (q3 : (i64B (tI (W (QL a)))) = true) (q4 : (i64B (tI (W (QM a)))) = false) : Gives P 39 #[I a] (I (squareI a)) := by
 have R := gs3_run a
 refine gives_of_run mo R (ps_cons (ivs_ok (by simp)) (ps_cons (neg_f q0) (ps_cons (sqG q0).i1 (ps_cons (sqG q0).i1 (ps_cons (P2_W _ _) (ps_cons (sqG q0).i2 (ps_cons (sqG q0).i2 (ps_cons (P2_W _ _) (ps_cons i64one (ps_cons (P2_W _ _) (ps_cons i64one (ps_cons (P2_W _ _) (ps_cons (P1_W _) (ps_cons (P1_W _) (ps_cons q1 (ps_cons q2 (ps_cons (neg_f q3) (ps_cons (neg_t q4) ps_nil)))))))))))))))))) ?_
 rw [sqT q0, told_out (.inr q4)]
 rfl
theorem gs4_run (a : Iv) : runF P G0 3 39 [I a] (.lit :: (.b false :: (.b false :: (.b false :: (.b false :: (.b false :: (.lit :: (.b true :: [])))))))) =
 some (I (⟨0, 0, true⟩), [fineP [ivs [a]], (!(fineL [a])) = false, ofP [.int .i64 (lW a)], ofP [.int .i64 (lW a)], P2 [W (lW a), W (lW a)], ofP [.int .i64 (mW a)], ofP [.int .i64 (mW a)], P2 [W (mW a), W (mW a)], ofP [.int .i64 1073741824], P2 [W (tI (W (lW a)) * tI (W (lW a))), W 1073741824], ofP [.int .i64 1073741824], P2 [W (tI (W (mW a)) * tI (W (mW a))), W 1073741824], P1 [W (QL a)], P1 [W (QM a)], (XL a != 0) = false, (XM a != 0) = false, (!(i64B (tI (W (QL a))))) = false, (!(i64B (tI (W (QM a))))) = false, fineP [ivs [⟨(if i64B (tI (W (QL a))) then tI (W (QL a)) else 0), (if i64B (tI (W (QM a))) then tI (W (QM a)) else 0), false⟩]], (!(fineL [⟨(if i64B (tI (W (QL a))) then tI (W (QL a)) else 0), (if i64B (tI (W (QM a))) then tI (W (QM a)) else 0), false⟩])) = true]) := by kernel_rfl
theorem gs4_leaf (a : Iv)  (q0 : (fineL [a]) = true) (q1 : (XL a != 0) = false) (q2 : (XM a != 0) = false) (q3 : (i64B (tI (W (QL a)))) = true) (q4 : (i64B (tI (W (QM a)))) = true) (q5 : (fineL [⟨(if i64B (tI (W (QL a))) then tI (W (QL a)) else 0), (if i64B (tI (W (QM a))) then tI (W (QM a)) else 0), false⟩]) = false) : Gives P 39 #[I a] (I (squareI a)) := by
 have R := gs4_run a
 refine gives_of_run mo R (ps_cons (ivs_ok (by simp)) (ps_cons (neg_f q0) (ps_cons (sqG q0).i1 (ps_cons (sqG q0).i1 (ps_cons (P2_W _ _) (ps_cons (sqG q0).i2 (ps_cons (sqG q0).i2 (ps_cons (P2_W _ _) (ps_cons i64one (ps_cons (P2_W _ _) (ps_cons i64one (ps_cons (P2_W _ _) (ps_cons (P1_W _) (ps_cons (P1_W _) (ps_cons q1 (ps_cons q2 (ps_cons (neg_f q3) (ps_cons (neg_f q4) (ps_cons (ivs_ok (by simp)) (ps_cons (neg_t q5) ps_nil)))))))))))))))))))) ?_
 rw [if_pos q3, if_pos q4] at q5
 rw [sqT q0, told_no (fine1 ▸ q5)]
 rfl
theorem gs_gives (args : List Value) (h : iP1 args) : Gives P 39 args.toArray ((one1 fun a => I (squareI a)) args) := by
 unfold iP1 at h
 split at h
 · obtain ⟨a, rfl⟩ := h
   show Gives P _ #[I a] (I (squareI a))
   cases q0 : (fineL [a]) with
   | true =>
    have q1 : (XL a != 0) = false := by rw [(sqG q0).e1]; rfl
    have q2 : (XM a != 0) = false := by rw [(sqG q0).e2]; rfl
    cases q3 : (i64B (tI (W (QL a)))) with
    | true =>
     cases q4 : (i64B (tI (W (QM a)))) with
     | true =>
      cases q5 : (fineL [⟨(if i64B (tI (W (QL a))) then tI (W (QL a)) else 0), (if i64B (tI (W (QM a))) then tI (W (QM a)) else 0), false⟩]) with
      | true =>
       exact gs0_leaf a  q0 q1 q2 q3 q4 q5
      | false =>
       exact gs4_leaf a  q0 q1 q2 q3 q4 q5
     | false =>
      exact gs3_leaf a  q0 q1 q2 q3 q4
    | false =>
     exact gs2_leaf a  q0 q1 q2 q3
   | false =>
    exact gs1_leaf a  q0
 · exact h.elim
noncomputable def cSq6 : Ctr P := ⟨39, iP1, one1 fun a => I (squareI a), gs_gives⟩
def onesV : List Value → Value
 | [.int _ x] => W (x * 1073741824)
 | _ => undef
noncomputable def Q0 : Env P := ⟨⟨Rd.refC, []⟩, [], 10, []⟩
theorem ones_run (x : Int) : runF P Q0 1 78 [.int .i64 x] [] =
 some (W (tI (W x) * tI (W 1073741824)), [ofP [.int .i64 x], ofP [.int .i64 1073741824], P2 [W x, W 1073741824]]) := by kernel_rfl
theorem ones_leaf (x : Int) (hx : I64 x) : Gives P 78 #[.int .i64 x] (W (x * 1073741824)) := by
 have e0 : tI (W x) = x := tI_in (i64_in hx)
 have e1 : tI (W 1073741824) = 1073741824 := tI_in (i64_in i64one)
 have R := ones_run x
 rw [e0, e1] at R
 refine gives_of_run mo R (ps_cons hx (ps_cons i64one (ps_cons (P2_W _ _) ps_nil))) ?_
 rfl
theorem ones_gives (args : List Value) (h : ofP args) : Gives P 78 args.toArray (onesV args) := by
 have h0 := h
 unfold ofP at h
 split at h
 · exact ones_leaf _ h
 · exact h.elim
noncomputable def cOnes : Ctr P := ⟨78, ofP, onesV, ones_gives⟩
end Go.R6
