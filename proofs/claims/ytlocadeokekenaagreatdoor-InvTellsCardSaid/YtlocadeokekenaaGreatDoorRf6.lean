/-
  Contracts of gyreref06: squares, quotients. Printed by rf6.py.
-/
import Derived.Test.YtlocadeokekenaaGreatDoorIna
import Derived.Test.YtlocadeokekenaaGreatDoorRf5
set_option maxRecDepth 100000
namespace Go.R6
open Go Go.RowKit Go.Sx Go.Nm Go.Wd Go.Qt Go.Iv Go.Nv Go.Rt Go.Proofs
def lW (a : Iv) : Int := mx (mx a.lo (IntKind.i64.wrap (0 - a.hi))) 0
def mW (a : Iv) : Int := mx a.hi (IntKind.i64.wrap (0 - a.lo))
def QL (a : Iv) : Int := qv fq (tI (W (tI (W (lW a)) * tI (W (lW a))))) (tI (W 1073741824))
def QM (a : Iv) : Int := qv cq (tI (W (tI (W (mW a)) * tI (W (mW a))))) (tI (W 1073741824))
def XL (a : Iv) : Int := qe (tI (W (tI (W (lW a)) * tI (W (lW a))))) (tI (W 1073741824))
def XM (a : Iv) : Int := qe (tI (W (tI (W (mW a)) * tI (W (mW a))))) (tI (W 1073741824))
structure SqG (a : Iv) : Prop where
  i1 : I64 (lW a)
  i2 : I64 (mW a)
  e1 : XL a = 0
  e2 : XM a = 0
  el : tI (W (QL a)) = fq (least a * least a) 1073741824
  eh : tI (W (QM a)) = cq (most a * most a) 1073741824
theorem sqG {a : Iv} (hf : fineL [a] = true) : SqG a := by
  rw [fine1] at hf
  have ra := fine_iff.1 hf
  have w1 : IntKind.i64.wrap (0 - a.hi) = -a.hi := by rw [Int.zero_sub]; exact wr (by omega) (by omega)
  have w2 : IntKind.i64.wrap (0 - a.lo) = -a.lo := by rw [Int.zero_sub]; exact wr (by omega) (by omega)
  have el : lW a = least a := by unfold lW; rw [w1]; rfl
  have em : mW a = most a := by unfold mW; rw [w2]; rfl
  have l0 := (least_spec hf).1
  have m0 := most_spec hf
  have l1 : least a ≤ 1152921504606846976 := by
    rcases (least_spec hf).2.1 a.lo (Int.le_refl _) (by omega) with h | h <;> omega
  have i1 : I64 (least a) := by unfold I64; omega
  have i2 : I64 (most a) := by unfold I64; omega
  have s1 := smmul i1 i1
  have s2 := smmul i2 i2
  have so := sm64 i64one
  have f1 : tI (W (least a)) = least a := tI_in (inR64 i1)
  have f2 : tI (W (most a)) = most a := tI_in (inR64 i2)
  have e1 : tI (W (least a * least a)) = least a * least a := tI_in (inR_of s1)
  have e2 : tI (W (most a * most a)) = most a * most a := tI_in (inR_of s2)
  have e3 : tI (W 1073741824) = 1073741824 := tI_in (inR_of so)
  refine ⟨by rw [el]; exact i1, by rw [em]; exact i2, ?_, ?_, ?_, ?_⟩
  · unfold XL; rw [el, f1, e1, e3, qe_ok s1 so (by decide)]
  · unfold XM; rw [em, f2, e2, e3, qe_ok s2 so (by decide)]
  · unfold QL; rw [el, f1, e1, e3, qv_ok fq s1 so (by decide), tI_in (fl_facts s1 so (by decide)).2.2.2.1]
  · unfold QM; rw [em, f2, e2, e3, qv_ok cq s2 so (by decide), tI_in (cq_in s2 so (by decide))]
theorem sqT {a : Iv} (hf : fineL [a] = true) : squareI a = told ⟨tI (W (QL a)), tI (W (QM a)), false⟩ := by
  rw [(sqG hf).el, (sqG hf).eh]
  unfold squareI; rw [hf]; rfl
theorem told_out {x y : Int} (h : i64B x = false ∨ i64B y = false) : told ⟨x, y, false⟩ = bd := by
  apply told_no
  rw [← Bool.not_eq_true]
  intro hf
  have r := fine_iff.1 hf
  simp only at r
  have k : i64B x = true ∧ i64B y = true := by
    unfold i64B
    simp only [Bool.and_eq_true, decide_eq_true_eq]
    omega
  rcases h with h | h
  · rw [k.1] at h; cases h
  · rw [k.2] at h; cases h
noncomputable def G0 : Env P := ⟨⟨[R3.cFloor, R3.cCeil] ++ Rd.refC, [rFine]⟩, [], 20, []⟩
theorem gs0_run (a : Iv) : runF P G0 2 39 [I a] (.lit :: (.b false :: (.b false :: (.b false :: (.b false :: (.b false :: (.lit :: (.b false :: [])))))))) =
  some (I (⟨(if i64B (tI (W (QL a))) then tI (W (QL a)) else 0), (if i64B (tI (W (QM a))) then tI (W (QM a)) else 0), false⟩), [fineP [ivs [a]], (!(fineL [a])) = false, ofP [.int .i64 (lW a)], ofP [.int .i64 (lW a)], P2 [W (lW a), W (lW a)], ofP [.int .i64 (mW a)], ofP [.int .i64 (mW a)], P2 [W (mW a), W (mW a)], ofP [.int .i64 1073741824], P2 [W (tI (W (lW a)) * tI (W (lW a))), W 1073741824], ofP [.int .i64 1073741824], P2 [W (tI (W (mW a)) * tI (W (mW a))), W 1073741824], P1 [W (QL a)], P1 [W (QM a)], (XL a != 0) = false, (XM a != 0) = false, (!(i64B (tI (W (QL a))))) = false, (!(i64B (tI (W (QM a))))) = false, fineP [ivs [⟨(if i64B (tI (W (QL a))) then tI (W (QL a)) else 0), (if i64B (tI (W (QM a))) then tI (W (QM a)) else 0), false⟩]], (!(fineL [⟨(if i64B (tI (W (QL a))) then tI (W (QL a)) else 0), (if i64B (tI (W (QM a))) then tI (W (QM a)) else 0), false⟩])) = false]) := by kernel_rfl
theorem gs0_leaf (a : Iv)  (q0 : (fineL [a]) = true) (q1 : (XL a != 0) = false) (q2 : (XM a != 0) = false) (q3 : (i64B (tI (W (QL a)))) = true) (q4 : (i64B (tI (W (QM a)))) = true) (q5 : (fineL [⟨(if i64B (tI (W (QL a))) then tI (W (QL a)) else 0), (if i64B (tI (W (QM a))) then tI (W (QM a)) else 0), false⟩]) = true) : Gives P 39 #[I a] (I (squareI a)) := by
  have R := gs0_run a
  refine gives_of_run mo R (ps_cons (ivs_ok (by simp)) (ps_cons (neg_f q0) (ps_cons (sqG q0).i1 (ps_cons (sqG q0).i1 (ps_cons (P2_W _ _) (ps_cons (sqG q0).i2 (ps_cons (sqG q0).i2 (ps_cons (P2_W _ _) (ps_cons i64one (ps_cons (P2_W _ _) (ps_cons i64one (ps_cons (P2_W _ _) (ps_cons (P1_W _) (ps_cons (P1_W _) (ps_cons q1 (ps_cons q2 (ps_cons (neg_f q3) (ps_cons (neg_f q4) (ps_cons (ivs_ok (by simp)) (ps_cons (neg_f q5) ps_nil)))))))))))))))))))) ?_
  rw [if_pos q3, if_pos q4] at q5 ⊢
  rw [sqT q0, told_ok (fine1 ▸ q5)]
theorem gs1_run (a : Iv) : runF P G0 2 39 [I a] (.lit :: (.b true :: [])) =
  some (I (⟨0, 0, true⟩), [fineP [ivs [a]], (!(fineL [a])) = true]) := by kernel_rfl
theorem gs1_leaf (a : Iv)  (q0 : (fineL [a]) = false) : Gives P 39 #[I a] (I (squareI a)) := by
  have R := gs1_run a
  refine gives_of_run mo R (ps_cons (ivs_ok (by simp)) (ps_cons (neg_t q0) ps_nil)) ?_
  unfold squareI
  rw [q0]
  rfl
theorem gs2_run (a : Iv) : runF P G0 3 39 [I a] (.lit :: (.b false :: (.b false :: (.b false :: (.b true :: []))))) =
  some (I (⟨0, 0, true⟩), [fineP [ivs [a]], (!(fineL [a])) = false, ofP [.int .i64 (lW a)], ofP [.int .i64 (lW a)], P2 [W (lW a), W (lW a)], ofP [.int .i64 (mW a)], ofP [.int .i64 (mW a)], P2 [W (mW a), W (mW a)], ofP [.int .i64 1073741824], P2 [W (tI (W (lW a)) * tI (W (lW a))), W 1073741824], ofP [.int .i64 1073741824], P2 [W (tI (W (mW a)) * tI (W (mW a))), W 1073741824], P1 [W (QL a)], P1 [W (QM a)], (XL a != 0) = false, (XM a != 0) = false, (!(i64B (tI (W (QL a))))) = true]) := by kernel_rfl
theorem gs2_leaf (a : Iv)  (q0 : (fineL [a]) = true) (q1 : (XL a != 0) = false) (q2 : (XM a != 0) = false) (q3 : (i64B (tI (W (QL a)))) = false) : Gives P 39 #[I a] (I (squareI a)) := by
  have R := gs2_run a
  refine gives_of_run mo R (ps_cons (ivs_ok (by simp)) (ps_cons (neg_f q0) (ps_cons (sqG q0).i1 (ps_cons (sqG q0).i1 (ps_cons (P2_W _ _) (ps_cons (sqG q0).i2 (ps_cons (sqG q0).i2 (ps_cons (P2_W _ _) (ps_cons i64one (ps_cons (P2_W _ _) (ps_cons i64one (ps_cons (P2_W _ _) (ps_cons (P1_W _) (ps_cons (P1_W _) (ps_cons q1 (ps_cons q2 (ps_cons (neg_t q3) ps_nil))))))))))))))))) ?_
  rw [sqT q0, told_out (.inl q3)]
  rfl
theorem gs3_run (a : Iv) : runF P G0 3 39 [I a] (.lit :: (.b false :: (.b false :: (.b false :: (.b false :: (.b true :: [])))))) =
  some (I (⟨0, 0, true⟩), [fineP [ivs [a]], (!(fineL [a])) = false, ofP [.int .i64 (lW a)], ofP [.int .i64 (lW a)], P2 [W (lW a), W (lW a)], ofP [.int .i64 (mW a)], ofP [.int .i64 (mW a)], P2 [W (mW a), W (mW a)], ofP [.int .i64 1073741824], P2 [W (tI (W (lW a)) * tI (W (lW a))), W 1073741824], ofP [.int .i64 1073741824], P2 [W (tI (W (mW a)) * tI (W (mW a))), W 1073741824], P1 [W (QL a)], P1 [W (QM a)], (XL a != 0) = false, (XM a != 0) = false, (!(i64B (tI (W (QL a))))) = false, (!(i64B (tI (W (QM a))))) = true]) := by kernel_rfl
theorem gs3_leaf (a : Iv)  (q0 : (fineL [a]) = true) (q1 : (XL a != 0) = false) (q2 : (XM a != 0) = false) (q3 : (i64B (tI (W (QL a)))) = true) (q4 : (i64B (tI (W (QM a)))) = false) : Gives P 39 #[I a] (I (squareI a)) := by
  have R := gs3_run a
  refine gives_of_run mo R (ps_cons (ivs_ok (by simp)) (ps_cons (neg_f q0) (ps_cons (sqG q0).i1 (ps_cons (sqG q0).i1 (ps_cons (P2_W _ _) (ps_cons (sqG q0).i2 (ps_cons (sqG q0).i2 (ps_cons (P2_W _ _) (ps_cons i64one (ps_cons (P2_W _ _) (ps_cons i64one (ps_cons (P2_W _ _) (ps_cons (P1_W _) (ps_cons (P1_W _) (ps_cons q1 (ps_cons q2 (ps_cons (neg_f q3) (ps_cons (neg_t q4) ps_nil)))))))))))))))))) ?_
  rw [sqT q0, told_out (.inr q4)]
  rfl
theorem gs4_run (a : Iv) : runF P G0 3 39 [I a] (.lit :: (.b false :: (.b false :: (.b false :: (.b false :: (.b false :: (.lit :: (.b true :: [])))))))) =
  some (I (⟨0, 0, true⟩), [fineP [ivs [a]], (!(fineL [a])) = false, ofP [.int .i64 (lW a)], ofP [.int .i64 (lW a)], P2 [W (lW a), W (lW a)], ofP [.int .i64 (mW a)], ofP [.int .i64 (mW a)], P2 [W (mW a), W (mW a)], ofP [.int .i64 1073741824], P2 [W (tI (W (lW a)) * tI (W (lW a))), W 1073741824], ofP [.int .i64 1073741824], P2 [W (tI (W (mW a)) * tI (W (mW a))), W 1073741824], P1 [W (QL a)], P1 [W (QM a)], (XL a != 0) = false, (XM a != 0) = false, (!(i64B (tI (W (QL a))))) = false, (!(i64B (tI (W (QM a))))) = false, fineP [ivs [⟨(if i64B (tI (W (QL a))) then tI (W (QL a)) else 0), (if i64B (tI (W (QM a))) then tI (W (QM a)) else 0), false⟩]], (!(fineL [⟨(if i64B (tI (W (QL a))) then tI (W (QL a)) else 0), (if i64B (tI (W (QM a))) then tI (W (QM a)) else 0), false⟩])) = true]) := by kernel_rfl
theorem gs4_leaf (a : Iv)  (q0 : (fineL [a]) = true) (q1 : (XL a != 0) = false) (q2 : (XM a != 0) = false) (q3 : (i64B (tI (W (QL a)))) = true) (q4 : (i64B (tI (W (QM a)))) = true) (q5 : (fineL [⟨(if i64B (tI (W (QL a))) then tI (W (QL a)) else 0), (if i64B (tI (W (QM a))) then tI (W (QM a)) else 0), false⟩]) = false) : Gives P 39 #[I a] (I (squareI a)) := by
  have R := gs4_run a
  refine gives_of_run mo R (ps_cons (ivs_ok (by simp)) (ps_cons (neg_f q0) (ps_cons (sqG q0).i1 (ps_cons (sqG q0).i1 (ps_cons (P2_W _ _) (ps_cons (sqG q0).i2 (ps_cons (sqG q0).i2 (ps_cons (P2_W _ _) (ps_cons i64one (ps_cons (P2_W _ _) (ps_cons i64one (ps_cons (P2_W _ _) (ps_cons (P1_W _) (ps_cons (P1_W _) (ps_cons q1 (ps_cons q2 (ps_cons (neg_f q3) (ps_cons (neg_f q4) (ps_cons (ivs_ok (by simp)) (ps_cons (neg_t q5) ps_nil)))))))))))))))))))) ?_
  rw [if_pos q3, if_pos q4] at q5
  rw [sqT q0, told_no (fine1 ▸ q5)]
  rfl
theorem gs_gives (args : List Value) (h : iP1 args) : Gives P 39 args.toArray ((one1 fun a => I (squareI a)) args) := by
  unfold iP1 at h
  split at h
  · obtain ⟨a, rfl⟩ := h
    show Gives P _ #[I a] (I (squareI a))
    cases q0 : (fineL [a]) with
    | true =>
      have q1 : (XL a != 0) = false := by rw [(sqG q0).e1]; rfl
      have q2 : (XM a != 0) = false := by rw [(sqG q0).e2]; rfl
      cases q3 : (i64B (tI (W (QL a)))) with
      | true =>
        cases q4 : (i64B (tI (W (QM a)))) with
        | true =>
          cases q5 : (fineL [⟨(if i64B (tI (W (QL a))) then tI (W (QL a)) else 0), (if i64B (tI (W (QM a))) then tI (W (QM a)) else 0), false⟩]) with
          | true =>
            exact gs0_leaf a  q0 q1 q2 q3 q4 q5
          | false =>
            exact gs4_leaf a  q0 q1 q2 q3 q4 q5
        | false =>
          exact gs3_leaf a  q0 q1 q2 q3 q4
      | false =>
        exact gs2_leaf a  q0 q1 q2 q3
    | false =>
      exact gs1_leaf a  q0
  · exact h.elim
noncomputable def cSq6 : Ctr P := ⟨39, iP1, one1 fun a => I (squareI a), gs_gives⟩
def onesV : List Value → Value
  | [.int _ x] => W (x * 1073741824)
  | _ => undef
noncomputable def Q0 : Env P := ⟨⟨Rd.refC, []⟩, [], 10, []⟩
theorem ones_run (x : Int) : runF P Q0 1 70 [.int .i64 x] [] =
  some (W (tI (W x) * tI (W 1073741824)), [ofP [.int .i64 x], ofP [.int .i64 1073741824], P2 [W x, W 1073741824]]) := by kernel_rfl
theorem ones_leaf (x : Int) (hx : I64 x) : Gives P 70 #[.int .i64 x] (W (x * 1073741824)) := by
  have e0 : tI (W x) = x := tI_in (i64_in hx)
  have e1 : tI (W 1073741824) = 1073741824 := tI_in (i64_in i64one)
  have R := ones_run x
  rw [e0, e1] at R
  refine gives_of_run mo R (ps_cons hx (ps_cons i64one (ps_cons (P2_W _ _) ps_nil))) ?_
  rfl
theorem ones_gives (args : List Value) (h : ofP args) : Gives P 70 args.toArray (onesV args) := by
  have h0 := h
  unfold ofP at h
  split at h
  · exact ones_leaf _ h
  · exact h.elim
noncomputable def cOnes : Ctr P := ⟨70, ofP, onesV, ones_gives⟩
def gq0_s  (a b : Iv) (l u rl ru : Int) : St := ⟨[(83, .v (.bool (decide (cmp3 (tI (W l)) (tI (W rl)) < 0)))), (0, .v (I a)), (1, .v (I b)), (2, .ptr 0 0), (3, .ptr 1 0), (4, .ptr 2 0), (5, .ptr 27 0), (6, .ptr 38 0), (7, .ptr 40 0), (8, .ptr 41 0), (9, .v (.int .i64 1)), (10, .ptr 112 0), (12, .ptr 127 0)], [(0, (.whole (I a), 23)), (1, (.whole (I b), 23)), (2, (.whole (I (⟨0, 0, false⟩)), 23)), (5, (.parts [.v (.int .i64 a.lo), .v (.int .i64 a.hi), .v (.bool a.bad), .v (.int .i64 b.lo), .v (.int .i64 b.hi), .v (.bool b.bad)], 23)), (27, (.whole (.agg #[.int .i64 a.lo, .int .i64 a.lo, .int .i64 a.hi, .int .i64 a.hi]), 61)), (38, (.whole (.agg #[.int .i64 b.lo, .int .i64 b.hi, .int .i64 b.lo, .int .i64 b.hi]), 61)), (40, (.whole (W rl), 52)), (41, (.whole (W ru), 52)), (112, (.whole (W l), 52)), (127, (.whole (W u), 52))], [], [127, 112, 72, 57, 41, 40, 38, 27, 5, 2, 1, 0], []⟩
def gq0_f  (a b : Iv) (l u rl ru : Int) : St := ⟨[(0, .v (I a)), (1, .v (I b)), (2, .ptr 0 0), (3, .ptr 1 0), (4, .ptr 2 0), (5, .ptr 27 0), (6, .ptr 38 0), (7, .ptr 40 0), (8, .ptr 41 0), (9, .v (.int .i64 1)), (10, .ptr 112 0), (12, .ptr 127 0)], [(0, (.whole (I a), 23)), (1, (.whole (I b), 23)), (2, (.whole (I (⟨0, 0, false⟩)), 23)), (5, (.parts [.v (.int .i64 a.lo), .v (.int .i64 a.hi), .v (.bool a.bad), .v (.int .i64 b.lo), .v (.int .i64 b.hi), .v (.bool b.bad)], 23)), (27, (.whole (.agg #[.int .i64 a.lo, .int .i64 a.lo, .int .i64 a.hi, .int .i64 a.hi]), 61)), (38, (.whole (.agg #[.int .i64 b.lo, .int .i64 b.hi, .int .i64 b.lo, .int .i64 b.hi]), 61)), (40, (.whole (W (mnW l rl)), 52)), (41, (.whole (W ru), 52)), (112, (.whole (W l), 52)), (127, (.whole (W u), 52))], [], [127, 112, 72, 57, 41, 40, 38, 27, 5, 2, 1, 0], []⟩
theorem gq0_t  (a b : Iv) (l u rl ru : Int) (k : Nat) : stepF P V0 1 97 (condOf P 35 2) (gq0_s  a b l u rl ru) (.b true :: []) 1000 (fun _ => some (gq0_f  a b l u rl ru)) k =
  some (.normal, k, [(decide (cmp3 (tI (W l)) (tI (W rl)) < 0)) = true, (I a : Value) = I a, (I b : Value) = I b, (.ptr 0 0 : SV) = .ptr 0 0, (.ptr 1 0 : SV) = .ptr 1 0, (.ptr 2 0 : SV) = .ptr 2 0, (.ptr 27 0 : SV) = .ptr 27 0, (.ptr 38 0 : SV) = .ptr 38 0, (.ptr 40 0 : SV) = .ptr 40 0, (.ptr 41 0 : SV) = .ptr 41 0, (.int .i64 1 : Value) = .int .i64 1, (.ptr 112 0 : SV) = .ptr 112 0, (.ptr 127 0 : SV) = .ptr 127 0, (I a : Value) = I a, (I b : Value) = I b, (I (⟨0, 0, false⟩) : Value) = I (⟨0, 0, false⟩), (.int .i64 a.lo : Value) = .int .i64 a.lo, (.int .i64 a.hi : Value) = .int .i64 a.hi, (.bool a.bad : Value) = .bool a.bad, (.int .i64 b.lo : Value) = .int .i64 b.lo, (.int .i64 b.hi : Value) = .int .i64 b.hi, (.bool b.bad : Value) = .bool b.bad, (.agg #[.int .i64 a.lo, .int .i64 a.lo, .int .i64 a.hi, .int .i64 a.hi] : Value) = .agg #[.int .i64 a.lo, .int .i64 a.lo, .int .i64 a.hi, .int .i64 a.hi], (.agg #[.int .i64 b.lo, .int .i64 b.hi, .int .i64 b.lo, .int .i64 b.hi] : Value) = .agg #[.int .i64 b.lo, .int .i64 b.hi, .int .i64 b.lo, .int .i64 b.hi], (W l : Value) = W (mnW l rl), (W ru : Value) = W ru, (W l : Value) = W l, (W u : Value) = W u]) := by kernel_rfl
theorem gq0_f'  (a b : Iv) (l u rl ru : Int) (k : Nat) : stepF P V0 1 97 (condOf P 35 2) (gq0_s  a b l u rl ru) (.b false :: []) 1000 (fun _ => some (gq0_f  a b l u rl ru)) k =
  some (.normal, k, [(decide (cmp3 (tI (W l)) (tI (W rl)) < 0)) = false, (I a : Value) = I a, (I b : Value) = I b, (.ptr 0 0 : SV) = .ptr 0 0, (.ptr 1 0 : SV) = .ptr 1 0, (.ptr 2 0 : SV) = .ptr 2 0, (.ptr 27 0 : SV) = .ptr 27 0, (.ptr 38 0 : SV) = .ptr 38 0, (.ptr 40 0 : SV) = .ptr 40 0, (.ptr 41 0 : SV) = .ptr 41 0, (.int .i64 1 : Value) = .int .i64 1, (.ptr 112 0 : SV) = .ptr 112 0, (.ptr 127 0 : SV) = .ptr 127 0, (I a : Value) = I a, (I b : Value) = I b, (I (⟨0, 0, false⟩) : Value) = I (⟨0, 0, false⟩), (.int .i64 a.lo : Value) = .int .i64 a.lo, (.int .i64 a.hi : Value) = .int .i64 a.hi, (.bool a.bad : Value) = .bool a.bad, (.int .i64 b.lo : Value) = .int .i64 b.lo, (.int .i64 b.hi : Value) = .int .i64 b.hi, (.bool b.bad : Value) = .bool b.bad, (.agg #[.int .i64 a.lo, .int .i64 a.lo, .int .i64 a.hi, .int .i64 a.hi] : Value) = .agg #[.int .i64 a.lo, .int .i64 a.lo, .int .i64 a.hi, .int .i64 a.hi], (.agg #[.int .i64 b.lo, .int .i64 b.hi, .int .i64 b.lo, .int .i64 b.hi] : Value) = .agg #[.int .i64 b.lo, .int .i64 b.hi, .int .i64 b.lo, .int .i64 b.hi], (W rl : Value) = W (mnW l rl), (W ru : Value) = W ru, (W l : Value) = W l, (W u : Value) = W u]) := by kernel_rfl
noncomputable def gq0  (a b : Iv) (l u rl ru : Int) (hw : wfSt [127, 112, 72, 57, 41, 40, 38, 27, 5, 2, 1, 0] (gq0_s  a b l u rl ru) = true) (hf : wfSt [127, 112, 72, 57, 41, 40, 38, 27, 5, 2, 1, 0] (gq0_f  a b l u rl ru) = true) : CodeC P :=
  onceC mo V0 (by rfl) 1 97 (condOf P 35 2) [127, 112, 72, 57, 41, 40, 38, 27, 5, 2, 1, 0] (gq0_s  a b l u rl ru) .normal (gq0_f  a b l u rl ru) rfl rfl hw hf [] rfl rfl (by
    cases h : ((decide (cmp3 (tI (W l)) (tI (W rl)) < 0))) with
    | true => exact step_run (fun k => gq0_t  a b l u rl ru k) (ps_cons h (ps_cons rfl (ps_cons rfl (ps_cons rfl (ps_cons rfl (ps_cons rfl (ps_cons rfl (ps_cons rfl (ps_cons rfl (ps_cons rfl (ps_cons rfl (ps_cons rfl (ps_cons rfl (ps_cons rfl (ps_cons rfl (ps_cons rfl (ps_cons rfl (ps_cons rfl (ps_cons rfl (ps_cons rfl (ps_cons rfl (ps_cons rfl (ps_cons rfl (ps_cons rfl (ps_cons (by rw [mnW_t h]) (ps_cons rfl (ps_cons rfl (ps_cons rfl ps_nil)))))))))))))))))))))))))))) rfl (fun S1 hk => ⟨rfl, hk⟩)
    | false => exact step_run (fun k => gq0_f'  a b l u rl ru k) (ps_cons h (ps_cons rfl (ps_cons rfl (ps_cons rfl (ps_cons rfl (ps_cons rfl (ps_cons rfl (ps_cons rfl (ps_cons rfl (ps_cons rfl (ps_cons rfl (ps_cons rfl (ps_cons rfl (ps_cons rfl (ps_cons rfl (ps_cons rfl (ps_cons rfl (ps_cons rfl (ps_cons rfl (ps_cons rfl (ps_cons rfl (ps_cons rfl (ps_cons rfl (ps_cons rfl (ps_cons (by rw [mnW_f h]) (ps_cons rfl (ps_cons rfl (ps_cons rfl ps_nil)))))))))))))))))))))))))))) rfl (fun S1 hk => ⟨rfl, hk⟩))
def gq1_s  (a b : Iv) (l u rl ru : Int) : St := ⟨[(92, .v (.bool (decide (cmp3 (tI (W u)) (tI (W ru)) > 0)))), (0, .v (I a)), (1, .v (I b)), (2, .ptr 0 0), (3, .ptr 1 0), (4, .ptr 2 0), (5, .ptr 27 0), (6, .ptr 38 0), (7, .ptr 40 0), (8, .ptr 41 0), (9, .v (.int .i64 1)), (10, .ptr 112 0), (12, .ptr 127 0)], [(0, (.whole (I a), 23)), (1, (.whole (I b), 23)), (2, (.whole (I (⟨0, 0, false⟩)), 23)), (5, (.parts [.v (.int .i64 a.lo), .v (.int .i64 a.hi), .v (.bool a.bad), .v (.int .i64 b.lo), .v (.int .i64 b.hi), .v (.bool b.bad)], 23)), (27, (.whole (.agg #[.int .i64 a.lo, .int .i64 a.lo, .int .i64 a.hi, .int .i64 a.hi]), 61)), (38, (.whole (.agg #[.int .i64 b.lo, .int .i64 b.hi, .int .i64 b.lo, .int .i64 b.hi]), 61)), (40, (.whole (W rl), 52)), (41, (.whole (W ru), 52)), (112, (.whole (W l), 52)), (127, (.whole (W u), 52))], [], [127, 112, 72, 57, 41, 40, 38, 27, 5, 2, 1, 0], []⟩
def gq1_f  (a b : Iv) (l u rl ru : Int) : St := ⟨[(0, .v (I a)), (1, .v (I b)), (2, .ptr 0 0), (3, .ptr 1 0), (4, .ptr 2 0), (5, .ptr 27 0), (6, .ptr 38 0), (7, .ptr 40 0), (8, .ptr 41 0), (9, .v (.int .i64 1)), (10, .ptr 112 0), (12, .ptr 127 0)], [(0, (.whole (I a), 23)), (1, (.whole (I b), 23)), (2, (.whole (I (⟨0, 0, false⟩)), 23)), (5, (.parts [.v (.int .i64 a.lo), .v (.int .i64 a.hi), .v (.bool a.bad), .v (.int .i64 b.lo), .v (.int .i64 b.hi), .v (.bool b.bad)], 23)), (27, (.whole (.agg #[.int .i64 a.lo, .int .i64 a.lo, .int .i64 a.hi, .int .i64 a.hi]), 61)), (38, (.whole (.agg #[.int .i64 b.lo, .int .i64 b.hi, .int .i64 b.lo, .int .i64 b.hi]), 61)), (40, (.whole (W rl), 52)), (41, (.whole (W (mxW u ru)), 52)), (112, (.whole (W l), 52)), (127, (.whole (W u), 52))], [], [127, 112, 72, 57, 41, 40, 38, 27, 5, 2, 1, 0], []⟩
theorem gq1_t  (a b : Iv) (l u rl ru : Int) (k : Nat) : stepF P V0 1 97 (condOf P 35 3) (gq1_s  a b l u rl ru) (.b true :: []) 1000 (fun _ => some (gq1_f  a b l u rl ru)) k =
  some (.normal, k, [(decide (cmp3 (tI (W u)) (tI (W ru)) > 0)) = true, (I a : Value) = I a, (I b : Value) = I b, (.ptr 0 0 : SV) = .ptr 0 0, (.ptr 1 0 : SV) = .ptr 1 0, (.ptr 2 0 : SV) = .ptr 2 0, (.ptr 27 0 : SV) = .ptr 27 0, (.ptr 38 0 : SV) = .ptr 38 0, (.ptr 40 0 : SV) = .ptr 40 0, (.ptr 41 0 : SV) = .ptr 41 0, (.int .i64 1 : Value) = .int .i64 1, (.ptr 112 0 : SV) = .ptr 112 0, (.ptr 127 0 : SV) = .ptr 127 0, (I a : Value) = I a, (I b : Value) = I b, (I (⟨0, 0, false⟩) : Value) = I (⟨0, 0, false⟩), (.int .i64 a.lo : Value) = .int .i64 a.lo, (.int .i64 a.hi : Value) = .int .i64 a.hi, (.bool a.bad : Value) = .bool a.bad, (.int .i64 b.lo : Value) = .int .i64 b.lo, (.int .i64 b.hi : Value) = .int .i64 b.hi, (.bool b.bad : Value) = .bool b.bad, (.agg #[.int .i64 a.lo, .int .i64 a.lo, .int .i64 a.hi, .int .i64 a.hi] : Value) = .agg #[.int .i64 a.lo, .int .i64 a.lo, .int .i64 a.hi, .int .i64 a.hi], (.agg #[.int .i64 b.lo, .int .i64 b.hi, .int .i64 b.lo, .int .i64 b.hi] : Value) = .agg #[.int .i64 b.lo, .int .i64 b.hi, .int .i64 b.lo, .int .i64 b.hi], (W rl : Value) = W rl, (W u : Value) = W (mxW u ru), (W l : Value) = W l, (W u : Value) = W u]) := by kernel_rfl
theorem gq1_f'  (a b : Iv) (l u rl ru : Int) (k : Nat) : stepF P V0 1 97 (condOf P 35 3) (gq1_s  a b l u rl ru) (.b false :: []) 1000 (fun _ => some (gq1_f  a b l u rl ru)) k =
  some (.normal, k, [(decide (cmp3 (tI (W u)) (tI (W ru)) > 0)) = false, (I a : Value) = I a, (I b : Value) = I b, (.ptr 0 0 : SV) = .ptr 0 0, (.ptr 1 0 : SV) = .ptr 1 0, (.ptr 2 0 : SV) = .ptr 2 0, (.ptr 27 0 : SV) = .ptr 27 0, (.ptr 38 0 : SV) = .ptr 38 0, (.ptr 40 0 : SV) = .ptr 40 0, (.ptr 41 0 : SV) = .ptr 41 0, (.int .i64 1 : Value) = .int .i64 1, (.ptr 112 0 : SV) = .ptr 112 0, (.ptr 127 0 : SV) = .ptr 127 0, (I a : Value) = I a, (I b : Value) = I b, (I (⟨0, 0, false⟩) : Value) = I (⟨0, 0, false⟩), (.int .i64 a.lo : Value) = .int .i64 a.lo, (.int .i64 a.hi : Value) = .int .i64 a.hi, (.bool a.bad : Value) = .bool a.bad, (.int .i64 b.lo : Value) = .int .i64 b.lo, (.int .i64 b.hi : Value) = .int .i64 b.hi, (.bool b.bad : Value) = .bool b.bad, (.agg #[.int .i64 a.lo, .int .i64 a.lo, .int .i64 a.hi, .int .i64 a.hi] : Value) = .agg #[.int .i64 a.lo, .int .i64 a.lo, .int .i64 a.hi, .int .i64 a.hi], (.agg #[.int .i64 b.lo, .int .i64 b.hi, .int .i64 b.lo, .int .i64 b.hi] : Value) = .agg #[.int .i64 b.lo, .int .i64 b.hi, .int .i64 b.lo, .int .i64 b.hi], (W rl : Value) = W rl, (W ru : Value) = W (mxW u ru), (W l : Value) = W l, (W u : Value) = W u]) := by kernel_rfl
noncomputable def gq1  (a b : Iv) (l u rl ru : Int) (hw : wfSt [127, 112, 72, 57, 41, 40, 38, 27, 5, 2, 1, 0] (gq1_s  a b l u rl ru) = true) (hf : wfSt [127, 112, 72, 57, 41, 40, 38, 27, 5, 2, 1, 0] (gq1_f  a b l u rl ru) = true) : CodeC P :=
  onceC mo V0 (by rfl) 1 97 (condOf P 35 3) [127, 112, 72, 57, 41, 40, 38, 27, 5, 2, 1, 0] (gq1_s  a b l u rl ru) .normal (gq1_f  a b l u rl ru) rfl rfl hw hf [] rfl rfl (by
    cases h : ((decide (cmp3 (tI (W u)) (tI (W ru)) > 0))) with
    | true => exact step_run (fun k => gq1_t  a b l u rl ru k) (ps_cons h (ps_cons rfl (ps_cons rfl (ps_cons rfl (ps_cons rfl (ps_cons rfl (ps_cons rfl (ps_cons rfl (ps_cons rfl (ps_cons rfl (ps_cons rfl (ps_cons rfl (ps_cons rfl (ps_cons rfl (ps_cons rfl (ps_cons rfl (ps_cons rfl (ps_cons rfl (ps_cons rfl (ps_cons rfl (ps_cons rfl (ps_cons rfl (ps_cons rfl (ps_cons rfl (ps_cons rfl (ps_cons (by rw [mxW_t h]) (ps_cons rfl (ps_cons rfl ps_nil)))))))))))))))))))))))))))) rfl (fun S1 hk => ⟨rfl, hk⟩)
    | false => exact step_run (fun k => gq1_f'  a b l u rl ru k) (ps_cons h (ps_cons rfl (ps_cons rfl (ps_cons rfl (ps_cons rfl (ps_cons rfl (ps_cons rfl (ps_cons rfl (ps_cons rfl (ps_cons rfl (ps_cons rfl (ps_cons rfl (ps_cons rfl (ps_cons rfl (ps_cons rfl (ps_cons rfl (ps_cons rfl (ps_cons rfl (ps_cons rfl (ps_cons rfl (ps_cons rfl (ps_cons rfl (ps_cons rfl (ps_cons rfl (ps_cons rfl (ps_cons (by rw [mxW_f h]) (ps_cons rfl (ps_cons rfl ps_nil)))))))))))))))))))))))))))) rfl (fun S1 hk => ⟨rfl, hk⟩))
def gq2_s  (a b : Iv) (l u rl ru : Int) : St := ⟨[(83, .v (.bool (decide (cmp3 (tI (W l)) (tI (W rl)) < 0)))), (0, .v (I a)), (1, .v (I b)), (2, .ptr 0 0), (3, .ptr 1 0), (4, .ptr 2 0), (5, .ptr 27 0), (6, .ptr 38 0), (7, .ptr 40 0), (8, .ptr 41 0), (9, .v (.int .i64 2)), (10, .ptr 163 0), (12, .ptr 178 0)], [(0, (.whole (I a), 23)), (1, (.whole (I b), 23)), (2, (.whole (I (⟨0, 0, false⟩)), 23)), (5, (.parts [.v (.int .i64 a.lo), .v (.int .i64 a.hi), .v (.bool a.bad), .v (.int .i64 b.lo), .v (.int .i64 b.hi), .v (.bool b.bad)], 23)), (27, (.whole (.agg #[.int .i64 a.lo, .int .i64 a.lo, .int .i64 a.hi, .int .i64 a.hi]), 61)), (38, (.whole (.agg #[.int .i64 b.lo, .int .i64 b.hi, .int .i64 b.lo, .int .i64 b.hi]), 61)), (40, (.whole (W rl), 52)), (41, (.whole (W ru), 52)), (163, (.whole (W l), 52)), (178, (.whole (W u), 52))], [], [178, 163, 127, 112, 72, 57, 41, 40, 38, 27, 5, 2, 1, 0], []⟩
def gq2_f  (a b : Iv) (l u rl ru : Int) : St := ⟨[(0, .v (I a)), (1, .v (I b)), (2, .ptr 0 0), (3, .ptr 1 0), (4, .ptr 2 0), (5, .ptr 27 0), (6, .ptr 38 0), (7, .ptr 40 0), (8, .ptr 41 0), (9, .v (.int .i64 2)), (10, .ptr 163 0), (12, .ptr 178 0)], [(0, (.whole (I a), 23)), (1, (.whole (I b), 23)), (2, (.whole (I (⟨0, 0, false⟩)), 23)), (5, (.parts [.v (.int .i64 a.lo), .v (.int .i64 a.hi), .v (.bool a.bad), .v (.int .i64 b.lo), .v (.int .i64 b.hi), .v (.bool b.bad)], 23)), (27, (.whole (.agg #[.int .i64 a.lo, .int .i64 a.lo, .int .i64 a.hi, .int .i64 a.hi]), 61)), (38, (.whole (.agg #[.int .i64 b.lo, .int .i64 b.hi, .int .i64 b.lo, .int .i64 b.hi]), 61)), (40, (.whole (W (mnW l rl)), 52)), (41, (.whole (W ru), 52)), (163, (.whole (W l), 52)), (178, (.whole (W u), 52))], [], [178, 163, 127, 112, 72, 57, 41, 40, 38, 27, 5, 2, 1, 0], []⟩
theorem gq2_t  (a b : Iv) (l u rl ru : Int) (k : Nat) : stepF P V0 1 97 (condOf P 35 2) (gq2_s  a b l u rl ru) (.b true :: []) 1000 (fun _ => some (gq2_f  a b l u rl ru)) k =
  some (.normal, k, [(decide (cmp3 (tI (W l)) (tI (W rl)) < 0)) = true, (I a : Value) = I a, (I b : Value) = I b, (.ptr 0 0 : SV) = .ptr 0 0, (.ptr 1 0 : SV) = .ptr 1 0, (.ptr 2 0 : SV) = .ptr 2 0, (.ptr 27 0 : SV) = .ptr 27 0, (.ptr 38 0 : SV) = .ptr 38 0, (.ptr 40 0 : SV) = .ptr 40 0, (.ptr 41 0 : SV) = .ptr 41 0, (.int .i64 2 : Value) = .int .i64 2, (.ptr 163 0 : SV) = .ptr 163 0, (.ptr 178 0 : SV) = .ptr 178 0, (I a : Value) = I a, (I b : Value) = I b, (I (⟨0, 0, false⟩) : Value) = I (⟨0, 0, false⟩), (.int .i64 a.lo : Value) = .int .i64 a.lo, (.int .i64 a.hi : Value) = .int .i64 a.hi, (.bool a.bad : Value) = .bool a.bad, (.int .i64 b.lo : Value) = .int .i64 b.lo, (.int .i64 b.hi : Value) = .int .i64 b.hi, (.bool b.bad : Value) = .bool b.bad, (.agg #[.int .i64 a.lo, .int .i64 a.lo, .int .i64 a.hi, .int .i64 a.hi] : Value) = .agg #[.int .i64 a.lo, .int .i64 a.lo, .int .i64 a.hi, .int .i64 a.hi], (.agg #[.int .i64 b.lo, .int .i64 b.hi, .int .i64 b.lo, .int .i64 b.hi] : Value) = .agg #[.int .i64 b.lo, .int .i64 b.hi, .int .i64 b.lo, .int .i64 b.hi], (W l : Value) = W (mnW l rl), (W ru : Value) = W ru, (W l : Value) = W l, (W u : Value) = W u]) := by kernel_rfl
theorem gq2_f'  (a b : Iv) (l u rl ru : Int) (k : Nat) : stepF P V0 1 97 (condOf P 35 2) (gq2_s  a b l u rl ru) (.b false :: []) 1000 (fun _ => some (gq2_f  a b l u rl ru)) k =
  some (.normal, k, [(decide (cmp3 (tI (W l)) (tI (W rl)) < 0)) = false, (I a : Value) = I a, (I b : Value) = I b, (.ptr 0 0 : SV) = .ptr 0 0, (.ptr 1 0 : SV) = .ptr 1 0, (.ptr 2 0 : SV) = .ptr 2 0, (.ptr 27 0 : SV) = .ptr 27 0, (.ptr 38 0 : SV) = .ptr 38 0, (.ptr 40 0 : SV) = .ptr 40 0, (.ptr 41 0 : SV) = .ptr 41 0, (.int .i64 2 : Value) = .int .i64 2, (.ptr 163 0 : SV) = .ptr 163 0, (.ptr 178 0 : SV) = .ptr 178 0, (I a : Value) = I a, (I b : Value) = I b, (I (⟨0, 0, false⟩) : Value) = I (⟨0, 0, false⟩), (.int .i64 a.lo : Value) = .int .i64 a.lo, (.int .i64 a.hi : Value) = .int .i64 a.hi, (.bool a.bad : Value) = .bool a.bad, (.int .i64 b.lo : Value) = .int .i64 b.lo, (.int .i64 b.hi : Value) = .int .i64 b.hi, (.bool b.bad : Value) = .bool b.bad, (.agg #[.int .i64 a.lo, .int .i64 a.lo, .int .i64 a.hi, .int .i64 a.hi] : Value) = .agg #[.int .i64 a.lo, .int .i64 a.lo, .int .i64 a.hi, .int .i64 a.hi], (.agg #[.int .i64 b.lo, .int .i64 b.hi, .int .i64 b.lo, .int .i64 b.hi] : Value) = .agg #[.int .i64 b.lo, .int .i64 b.hi, .int .i64 b.lo, .int .i64 b.hi], (W rl : Value) = W (mnW l rl), (W ru : Value) = W ru, (W l : Value) = W l, (W u : Value) = W u]) := by kernel_rfl
noncomputable def gq2  (a b : Iv) (l u rl ru : Int) (hw : wfSt [178, 163, 127, 112, 72, 57, 41, 40, 38, 27, 5, 2, 1, 0] (gq2_s  a b l u rl ru) = true) (hf : wfSt [178, 163, 127, 112, 72, 57, 41, 40, 38, 27, 5, 2, 1, 0] (gq2_f  a b l u rl ru) = true) : CodeC P :=
  onceC mo V0 (by rfl) 1 97 (condOf P 35 2) [178, 163, 127, 112, 72, 57, 41, 40, 38, 27, 5, 2, 1, 0] (gq2_s  a b l u rl ru) .normal (gq2_f  a b l u rl ru) rfl rfl hw hf [] rfl rfl (by
    cases h : ((decide (cmp3 (tI (W l)) (tI (W rl)) < 0))) with
    | true => exact step_run (fun k => gq2_t  a b l u rl ru k) (ps_cons h (ps_cons rfl (ps_cons rfl (ps_cons rfl (ps_cons rfl (ps_cons rfl (ps_cons rfl (ps_cons rfl (ps_cons rfl (ps_cons rfl (ps_cons rfl (ps_cons rfl (ps_cons rfl (ps_cons rfl (ps_cons rfl (ps_cons rfl (ps_cons rfl (ps_cons rfl (ps_cons rfl (ps_cons rfl (ps_cons rfl (ps_cons rfl (ps_cons rfl (ps_cons rfl (ps_cons (by rw [mnW_t h]) (ps_cons rfl (ps_cons rfl (ps_cons rfl ps_nil)))))))))))))))))))))))))))) rfl (fun S1 hk => ⟨rfl, hk⟩)
    | false => exact step_run (fun k => gq2_f'  a b l u rl ru k) (ps_cons h (ps_cons rfl (ps_cons rfl (ps_cons rfl (ps_cons rfl (ps_cons rfl (ps_cons rfl (ps_cons rfl (ps_cons rfl (ps_cons rfl (ps_cons rfl (ps_cons rfl (ps_cons rfl (ps_cons rfl (ps_cons rfl (ps_cons rfl (ps_cons rfl (ps_cons rfl (ps_cons rfl (ps_cons rfl (ps_cons rfl (ps_cons rfl (ps_cons rfl (ps_cons rfl (ps_cons (by rw [mnW_f h]) (ps_cons rfl (ps_cons rfl (ps_cons rfl ps_nil)))))))))))))))))))))))))))) rfl (fun S1 hk => ⟨rfl, hk⟩))
def gq3_s  (a b : Iv) (l u rl ru : Int) : St := ⟨[(92, .v (.bool (decide (cmp3 (tI (W u)) (tI (W ru)) > 0)))), (0, .v (I a)), (1, .v (I b)), (2, .ptr 0 0), (3, .ptr 1 0), (4, .ptr 2 0), (5, .ptr 27 0), (6, .ptr 38 0), (7, .ptr 40 0), (8, .ptr 41 0), (9, .v (.int .i64 2)), (10, .ptr 163 0), (12, .ptr 178 0)], [(0, (.whole (I a), 23)), (1, (.whole (I b), 23)), (2, (.whole (I (⟨0, 0, false⟩)), 23)), (5, (.parts [.v (.int .i64 a.lo), .v (.int .i64 a.hi), .v (.bool a.bad), .v (.int .i64 b.lo), .v (.int .i64 b.hi), .v (.bool b.bad)], 23)), (27, (.whole (.agg #[.int .i64 a.lo, .int .i64 a.lo, .int .i64 a.hi, .int .i64 a.hi]), 61)), (38, (.whole (.agg #[.int .i64 b.lo, .int .i64 b.hi, .int .i64 b.lo, .int .i64 b.hi]), 61)), (40, (.whole (W rl), 52)), (41, (.whole (W ru), 52)), (163, (.whole (W l), 52)), (178, (.whole (W u), 52))], [], [178, 163, 127, 112, 72, 57, 41, 40, 38, 27, 5, 2, 1, 0], []⟩
def gq3_f  (a b : Iv) (l u rl ru : Int) : St := ⟨[(0, .v (I a)), (1, .v (I b)), (2, .ptr 0 0), (3, .ptr 1 0), (4, .ptr 2 0), (5, .ptr 27 0), (6, .ptr 38 0), (7, .ptr 40 0), (8, .ptr 41 0), (9, .v (.int .i64 2)), (10, .ptr 163 0), (12, .ptr 178 0)], [(0, (.whole (I a), 23)), (1, (.whole (I b), 23)), (2, (.whole (I (⟨0, 0, false⟩)), 23)), (5, (.parts [.v (.int .i64 a.lo), .v (.int .i64 a.hi), .v (.bool a.bad), .v (.int .i64 b.lo), .v (.int .i64 b.hi), .v (.bool b.bad)], 23)), (27, (.whole (.agg #[.int .i64 a.lo, .int .i64 a.lo, .int .i64 a.hi, .int .i64 a.hi]), 61)), (38, (.whole (.agg #[.int .i64 b.lo, .int .i64 b.hi, .int .i64 b.lo, .int .i64 b.hi]), 61)), (40, (.whole (W rl), 52)), (41, (.whole (W (mxW u ru)), 52)), (163, (.whole (W l), 52)), (178, (.whole (W u), 52))], [], [178, 163, 127, 112, 72, 57, 41, 40, 38, 27, 5, 2, 1, 0], []⟩
theorem gq3_t  (a b : Iv) (l u rl ru : Int) (k : Nat) : stepF P V0 1 97 (condOf P 35 3) (gq3_s  a b l u rl ru) (.b true :: []) 1000 (fun _ => some (gq3_f  a b l u rl ru)) k =
  some (.normal, k, [(decide (cmp3 (tI (W u)) (tI (W ru)) > 0)) = true, (I a : Value) = I a, (I b : Value) = I b, (.ptr 0 0 : SV) = .ptr 0 0, (.ptr 1 0 : SV) = .ptr 1 0, (.ptr 2 0 : SV) = .ptr 2 0, (.ptr 27 0 : SV) = .ptr 27 0, (.ptr 38 0 : SV) = .ptr 38 0, (.ptr 40 0 : SV) = .ptr 40 0, (.ptr 41 0 : SV) = .ptr 41 0, (.int .i64 2 : Value) = .int .i64 2, (.ptr 163 0 : SV) = .ptr 163 0, (.ptr 178 0 : SV) = .ptr 178 0, (I a : Value) = I a, (I b : Value) = I b, (I (⟨0, 0, false⟩) : Value) = I (⟨0, 0, false⟩), (.int .i64 a.lo : Value) = .int .i64 a.lo, (.int .i64 a.hi : Value) = .int .i64 a.hi, (.bool a.bad : Value) = .bool a.bad, (.int .i64 b.lo : Value) = .int .i64 b.lo, (.int .i64 b.hi : Value) = .int .i64 b.hi, (.bool b.bad : Value) = .bool b.bad, (.agg #[.int .i64 a.lo, .int .i64 a.lo, .int .i64 a.hi, .int .i64 a.hi] : Value) = .agg #[.int .i64 a.lo, .int .i64 a.lo, .int .i64 a.hi, .int .i64 a.hi], (.agg #[.int .i64 b.lo, .int .i64 b.hi, .int .i64 b.lo, .int .i64 b.hi] : Value) = .agg #[.int .i64 b.lo, .int .i64 b.hi, .int .i64 b.lo, .int .i64 b.hi], (W rl : Value) = W rl, (W u : Value) = W (mxW u ru), (W l : Value) = W l, (W u : Value) = W u]) := by kernel_rfl
theorem gq3_f'  (a b : Iv) (l u rl ru : Int) (k : Nat) : stepF P V0 1 97 (condOf P 35 3) (gq3_s  a b l u rl ru) (.b false :: []) 1000 (fun _ => some (gq3_f  a b l u rl ru)) k =
  some (.normal, k, [(decide (cmp3 (tI (W u)) (tI (W ru)) > 0)) = false, (I a : Value) = I a, (I b : Value) = I b, (.ptr 0 0 : SV) = .ptr 0 0, (.ptr 1 0 : SV) = .ptr 1 0, (.ptr 2 0 : SV) = .ptr 2 0, (.ptr 27 0 : SV) = .ptr 27 0, (.ptr 38 0 : SV) = .ptr 38 0, (.ptr 40 0 : SV) = .ptr 40 0, (.ptr 41 0 : SV) = .ptr 41 0, (.int .i64 2 : Value) = .int .i64 2, (.ptr 163 0 : SV) = .ptr 163 0, (.ptr 178 0 : SV) = .ptr 178 0, (I a : Value) = I a, (I b : Value) = I b, (I (⟨0, 0, false⟩) : Value) = I (⟨0, 0, false⟩), (.int .i64 a.lo : Value) = .int .i64 a.lo, (.int .i64 a.hi : Value) = .int .i64 a.hi, (.bool a.bad : Value) = .bool a.bad, (.int .i64 b.lo : Value) = .int .i64 b.lo, (.int .i64 b.hi : Value) = .int .i64 b.hi, (.bool b.bad : Value) = .bool b.bad, (.agg #[.int .i64 a.lo, .int .i64 a.lo, .int .i64 a.hi, .int .i64 a.hi] : Value) = .agg #[.int .i64 a.lo, .int .i64 a.lo, .int .i64 a.hi, .int .i64 a.hi], (.agg #[.int .i64 b.lo, .int .i64 b.hi, .int .i64 b.lo, .int .i64 b.hi] : Value) = .agg #[.int .i64 b.lo, .int .i64 b.hi, .int .i64 b.lo, .int .i64 b.hi], (W rl : Value) = W rl, (W ru : Value) = W (mxW u ru), (W l : Value) = W l, (W u : Value) = W u]) := by kernel_rfl
noncomputable def gq3  (a b : Iv) (l u rl ru : Int) (hw : wfSt [178, 163, 127, 112, 72, 57, 41, 40, 38, 27, 5, 2, 1, 0] (gq3_s  a b l u rl ru) = true) (hf : wfSt [178, 163, 127, 112, 72, 57, 41, 40, 38, 27, 5, 2, 1, 0] (gq3_f  a b l u rl ru) = true) : CodeC P :=
  onceC mo V0 (by rfl) 1 97 (condOf P 35 3) [178, 163, 127, 112, 72, 57, 41, 40, 38, 27, 5, 2, 1, 0] (gq3_s  a b l u rl ru) .normal (gq3_f  a b l u rl ru) rfl rfl hw hf [] rfl rfl (by
    cases h : ((decide (cmp3 (tI (W u)) (tI (W ru)) > 0))) with
    | true => exact step_run (fun k => gq3_t  a b l u rl ru k) (ps_cons h (ps_cons rfl (ps_cons rfl (ps_cons rfl (ps_cons rfl (ps_cons rfl (ps_cons rfl (ps_cons rfl (ps_cons rfl (ps_cons rfl (ps_cons rfl (ps_cons rfl (ps_cons rfl (ps_cons rfl (ps_cons rfl (ps_cons rfl (ps_cons rfl (ps_cons rfl (ps_cons rfl (ps_cons rfl (ps_cons rfl (ps_cons rfl (ps_cons rfl (ps_cons rfl (ps_cons rfl (ps_cons (by rw [mxW_t h]) (ps_cons rfl (ps_cons rfl ps_nil)))))))))))))))))))))))))))) rfl (fun S1 hk => ⟨rfl, hk⟩)
    | false => exact step_run (fun k => gq3_f'  a b l u rl ru k) (ps_cons h (ps_cons rfl (ps_cons rfl (ps_cons rfl (ps_cons rfl (ps_cons rfl (ps_cons rfl (ps_cons rfl (ps_cons rfl (ps_cons rfl (ps_cons rfl (ps_cons rfl (ps_cons rfl (ps_cons rfl (ps_cons rfl (ps_cons rfl (ps_cons rfl (ps_cons rfl (ps_cons rfl (ps_cons rfl (ps_cons rfl (ps_cons rfl (ps_cons rfl (ps_cons rfl (ps_cons rfl (ps_cons (by rw [mxW_f h]) (ps_cons rfl (ps_cons rfl ps_nil)))))))))))))))))))))))))))) rfl (fun S1 hk => ⟨rfl, hk⟩))
def gq4_s  (a b : Iv) (l u rl ru : Int) : St := ⟨[(83, .v (.bool (decide (cmp3 (tI (W l)) (tI (W rl)) < 0)))), (0, .v (I a)), (1, .v (I b)), (2, .ptr 0 0), (3, .ptr 1 0), (4, .ptr 2 0), (5, .ptr 27 0), (6, .ptr 38 0), (7, .ptr 40 0), (8, .ptr 41 0), (9, .v (.int .i64 3)), (10, .ptr 214 0), (12, .ptr 229 0)], [(0, (.whole (I a), 23)), (1, (.whole (I b), 23)), (2, (.whole (I (⟨0, 0, false⟩)), 23)), (5, (.parts [.v (.int .i64 a.lo), .v (.int .i64 a.hi), .v (.bool a.bad), .v (.int .i64 b.lo), .v (.int .i64 b.hi), .v (.bool b.bad)], 23)), (27, (.whole (.agg #[.int .i64 a.lo, .int .i64 a.lo, .int .i64 a.hi, .int .i64 a.hi]), 61)), (38, (.whole (.agg #[.int .i64 b.lo, .int .i64 b.hi, .int .i64 b.lo, .int .i64 b.hi]), 61)), (40, (.whole (W rl), 52)), (41, (.whole (W ru), 52)), (214, (.whole (W l), 52)), (229, (.whole (W u), 52))], [], [229, 214, 178, 163, 127, 112, 72, 57, 41, 40, 38, 27, 5, 2, 1, 0], []⟩
def gq4_f  (a b : Iv) (l u rl ru : Int) : St := ⟨[(0, .v (I a)), (1, .v (I b)), (2, .ptr 0 0), (3, .ptr 1 0), (4, .ptr 2 0), (5, .ptr 27 0), (6, .ptr 38 0), (7, .ptr 40 0), (8, .ptr 41 0), (9, .v (.int .i64 3)), (10, .ptr 214 0), (12, .ptr 229 0)], [(0, (.whole (I a), 23)), (1, (.whole (I b), 23)), (2, (.whole (I (⟨0, 0, false⟩)), 23)), (5, (.parts [.v (.int .i64 a.lo), .v (.int .i64 a.hi), .v (.bool a.bad), .v (.int .i64 b.lo), .v (.int .i64 b.hi), .v (.bool b.bad)], 23)), (27, (.whole (.agg #[.int .i64 a.lo, .int .i64 a.lo, .int .i64 a.hi, .int .i64 a.hi]), 61)), (38, (.whole (.agg #[.int .i64 b.lo, .int .i64 b.hi, .int .i64 b.lo, .int .i64 b.hi]), 61)), (40, (.whole (W (mnW l rl)), 52)), (41, (.whole (W ru), 52)), (214, (.whole (W l), 52)), (229, (.whole (W u), 52))], [], [229, 214, 178, 163, 127, 112, 72, 57, 41, 40, 38, 27, 5, 2, 1, 0], []⟩
theorem gq4_t  (a b : Iv) (l u rl ru : Int) (k : Nat) : stepF P V0 1 97 (condOf P 35 2) (gq4_s  a b l u rl ru) (.b true :: []) 1000 (fun _ => some (gq4_f  a b l u rl ru)) k =
  some (.normal, k, [(decide (cmp3 (tI (W l)) (tI (W rl)) < 0)) = true, (I a : Value) = I a, (I b : Value) = I b, (.ptr 0 0 : SV) = .ptr 0 0, (.ptr 1 0 : SV) = .ptr 1 0, (.ptr 2 0 : SV) = .ptr 2 0, (.ptr 27 0 : SV) = .ptr 27 0, (.ptr 38 0 : SV) = .ptr 38 0, (.ptr 40 0 : SV) = .ptr 40 0, (.ptr 41 0 : SV) = .ptr 41 0, (.int .i64 3 : Value) = .int .i64 3, (.ptr 214 0 : SV) = .ptr 214 0, (.ptr 229 0 : SV) = .ptr 229 0, (I a : Value) = I a, (I b : Value) = I b, (I (⟨0, 0, false⟩) : Value) = I (⟨0, 0, false⟩), (.int .i64 a.lo : Value) = .int .i64 a.lo, (.int .i64 a.hi : Value) = .int .i64 a.hi, (.bool a.bad : Value) = .bool a.bad, (.int .i64 b.lo : Value) = .int .i64 b.lo, (.int .i64 b.hi : Value) = .int .i64 b.hi, (.bool b.bad : Value) = .bool b.bad, (.agg #[.int .i64 a.lo, .int .i64 a.lo, .int .i64 a.hi, .int .i64 a.hi] : Value) = .agg #[.int .i64 a.lo, .int .i64 a.lo, .int .i64 a.hi, .int .i64 a.hi], (.agg #[.int .i64 b.lo, .int .i64 b.hi, .int .i64 b.lo, .int .i64 b.hi] : Value) = .agg #[.int .i64 b.lo, .int .i64 b.hi, .int .i64 b.lo, .int .i64 b.hi], (W l : Value) = W (mnW l rl), (W ru : Value) = W ru, (W l : Value) = W l, (W u : Value) = W u]) := by kernel_rfl
theorem gq4_f'  (a b : Iv) (l u rl ru : Int) (k : Nat) : stepF P V0 1 97 (condOf P 35 2) (gq4_s  a b l u rl ru) (.b false :: []) 1000 (fun _ => some (gq4_f  a b l u rl ru)) k =
  some (.normal, k, [(decide (cmp3 (tI (W l)) (tI (W rl)) < 0)) = false, (I a : Value) = I a, (I b : Value) = I b, (.ptr 0 0 : SV) = .ptr 0 0, (.ptr 1 0 : SV) = .ptr 1 0, (.ptr 2 0 : SV) = .ptr 2 0, (.ptr 27 0 : SV) = .ptr 27 0, (.ptr 38 0 : SV) = .ptr 38 0, (.ptr 40 0 : SV) = .ptr 40 0, (.ptr 41 0 : SV) = .ptr 41 0, (.int .i64 3 : Value) = .int .i64 3, (.ptr 214 0 : SV) = .ptr 214 0, (.ptr 229 0 : SV) = .ptr 229 0, (I a : Value) = I a, (I b : Value) = I b, (I (⟨0, 0, false⟩) : Value) = I (⟨0, 0, false⟩), (.int .i64 a.lo : Value) = .int .i64 a.lo, (.int .i64 a.hi : Value) = .int .i64 a.hi, (.bool a.bad : Value) = .bool a.bad, (.int .i64 b.lo : Value) = .int .i64 b.lo, (.int .i64 b.hi : Value) = .int .i64 b.hi, (.bool b.bad : Value) = .bool b.bad, (.agg #[.int .i64 a.lo, .int .i64 a.lo, .int .i64 a.hi, .int .i64 a.hi] : Value) = .agg #[.int .i64 a.lo, .int .i64 a.lo, .int .i64 a.hi, .int .i64 a.hi], (.agg #[.int .i64 b.lo, .int .i64 b.hi, .int .i64 b.lo, .int .i64 b.hi] : Value) = .agg #[.int .i64 b.lo, .int .i64 b.hi, .int .i64 b.lo, .int .i64 b.hi], (W rl : Value) = W (mnW l rl), (W ru : Value) = W ru, (W l : Value) = W l, (W u : Value) = W u]) := by kernel_rfl
noncomputable def gq4  (a b : Iv) (l u rl ru : Int) (hw : wfSt [229, 214, 178, 163, 127, 112, 72, 57, 41, 40, 38, 27, 5, 2, 1, 0] (gq4_s  a b l u rl ru) = true) (hf : wfSt [229, 214, 178, 163, 127, 112, 72, 57, 41, 40, 38, 27, 5, 2, 1, 0] (gq4_f  a b l u rl ru) = true) : CodeC P :=
  onceC mo V0 (by rfl) 1 97 (condOf P 35 2) [229, 214, 178, 163, 127, 112, 72, 57, 41, 40, 38, 27, 5, 2, 1, 0] (gq4_s  a b l u rl ru) .normal (gq4_f  a b l u rl ru) rfl rfl hw hf [] rfl rfl (by
    cases h : ((decide (cmp3 (tI (W l)) (tI (W rl)) < 0))) with
    | true => exact step_run (fun k => gq4_t  a b l u rl ru k) (ps_cons h (ps_cons rfl (ps_cons rfl (ps_cons rfl (ps_cons rfl (ps_cons rfl (ps_cons rfl (ps_cons rfl (ps_cons rfl (ps_cons rfl (ps_cons rfl (ps_cons rfl (ps_cons rfl (ps_cons rfl (ps_cons rfl (ps_cons rfl (ps_cons rfl (ps_cons rfl (ps_cons rfl (ps_cons rfl (ps_cons rfl (ps_cons rfl (ps_cons rfl (ps_cons rfl (ps_cons (by rw [mnW_t h]) (ps_cons rfl (ps_cons rfl (ps_cons rfl ps_nil)))))))))))))))))))))))))))) rfl (fun S1 hk => ⟨rfl, hk⟩)
    | false => exact step_run (fun k => gq4_f'  a b l u rl ru k) (ps_cons h (ps_cons rfl (ps_cons rfl (ps_cons rfl (ps_cons rfl (ps_cons rfl (ps_cons rfl (ps_cons rfl (ps_cons rfl (ps_cons rfl (ps_cons rfl (ps_cons rfl (ps_cons rfl (ps_cons rfl (ps_cons rfl (ps_cons rfl (ps_cons rfl (ps_cons rfl (ps_cons rfl (ps_cons rfl (ps_cons rfl (ps_cons rfl (ps_cons rfl (ps_cons rfl (ps_cons (by rw [mnW_f h]) (ps_cons rfl (ps_cons rfl (ps_cons rfl ps_nil)))))))))))))))))))))))))))) rfl (fun S1 hk => ⟨rfl, hk⟩))
def gq5_s  (a b : Iv) (l u rl ru : Int) : St := ⟨[(92, .v (.bool (decide (cmp3 (tI (W u)) (tI (W ru)) > 0)))), (0, .v (I a)), (1, .v (I b)), (2, .ptr 0 0), (3, .ptr 1 0), (4, .ptr 2 0), (5, .ptr 27 0), (6, .ptr 38 0), (7, .ptr 40 0), (8, .ptr 41 0), (9, .v (.int .i64 3)), (10, .ptr 214 0), (12, .ptr 229 0)], [(0, (.whole (I a), 23)), (1, (.whole (I b), 23)), (2, (.whole (I (⟨0, 0, false⟩)), 23)), (5, (.parts [.v (.int .i64 a.lo), .v (.int .i64 a.hi), .v (.bool a.bad), .v (.int .i64 b.lo), .v (.int .i64 b.hi), .v (.bool b.bad)], 23)), (27, (.whole (.agg #[.int .i64 a.lo, .int .i64 a.lo, .int .i64 a.hi, .int .i64 a.hi]), 61)), (38, (.whole (.agg #[.int .i64 b.lo, .int .i64 b.hi, .int .i64 b.lo, .int .i64 b.hi]), 61)), (40, (.whole (W rl), 52)), (41, (.whole (W ru), 52)), (214, (.whole (W l), 52)), (229, (.whole (W u), 52))], [], [229, 214, 178, 163, 127, 112, 72, 57, 41, 40, 38, 27, 5, 2, 1, 0], []⟩
def gq5_f  (a b : Iv) (l u rl ru : Int) : St := ⟨[(0, .v (I a)), (1, .v (I b)), (2, .ptr 0 0), (3, .ptr 1 0), (4, .ptr 2 0), (5, .ptr 27 0), (6, .ptr 38 0), (7, .ptr 40 0), (8, .ptr 41 0), (9, .v (.int .i64 3)), (10, .ptr 214 0), (12, .ptr 229 0)], [(0, (.whole (I a), 23)), (1, (.whole (I b), 23)), (2, (.whole (I (⟨0, 0, false⟩)), 23)), (5, (.parts [.v (.int .i64 a.lo), .v (.int .i64 a.hi), .v (.bool a.bad), .v (.int .i64 b.lo), .v (.int .i64 b.hi), .v (.bool b.bad)], 23)), (27, (.whole (.agg #[.int .i64 a.lo, .int .i64 a.lo, .int .i64 a.hi, .int .i64 a.hi]), 61)), (38, (.whole (.agg #[.int .i64 b.lo, .int .i64 b.hi, .int .i64 b.lo, .int .i64 b.hi]), 61)), (40, (.whole (W rl), 52)), (41, (.whole (W (mxW u ru)), 52)), (214, (.whole (W l), 52)), (229, (.whole (W u), 52))], [], [229, 214, 178, 163, 127, 112, 72, 57, 41, 40, 38, 27, 5, 2, 1, 0], []⟩
theorem gq5_t  (a b : Iv) (l u rl ru : Int) (k : Nat) : stepF P V0 1 97 (condOf P 35 3) (gq5_s  a b l u rl ru) (.b true :: []) 1000 (fun _ => some (gq5_f  a b l u rl ru)) k =
  some (.normal, k, [(decide (cmp3 (tI (W u)) (tI (W ru)) > 0)) = true, (I a : Value) = I a, (I b : Value) = I b, (.ptr 0 0 : SV) = .ptr 0 0, (.ptr 1 0 : SV) = .ptr 1 0, (.ptr 2 0 : SV) = .ptr 2 0, (.ptr 27 0 : SV) = .ptr 27 0, (.ptr 38 0 : SV) = .ptr 38 0, (.ptr 40 0 : SV) = .ptr 40 0, (.ptr 41 0 : SV) = .ptr 41 0, (.int .i64 3 : Value) = .int .i64 3, (.ptr 214 0 : SV) = .ptr 214 0, (.ptr 229 0 : SV) = .ptr 229 0, (I a : Value) = I a, (I b : Value) = I b, (I (⟨0, 0, false⟩) : Value) = I (⟨0, 0, false⟩), (.int .i64 a.lo : Value) = .int .i64 a.lo, (.int .i64 a.hi : Value) = .int .i64 a.hi, (.bool a.bad : Value) = .bool a.bad, (.int .i64 b.lo : Value) = .int .i64 b.lo, (.int .i64 b.hi : Value) = .int .i64 b.hi, (.bool b.bad : Value) = .bool b.bad, (.agg #[.int .i64 a.lo, .int .i64 a.lo, .int .i64 a.hi, .int .i64 a.hi] : Value) = .agg #[.int .i64 a.lo, .int .i64 a.lo, .int .i64 a.hi, .int .i64 a.hi], (.agg #[.int .i64 b.lo, .int .i64 b.hi, .int .i64 b.lo, .int .i64 b.hi] : Value) = .agg #[.int .i64 b.lo, .int .i64 b.hi, .int .i64 b.lo, .int .i64 b.hi], (W rl : Value) = W rl, (W u : Value) = W (mxW u ru), (W l : Value) = W l, (W u : Value) = W u]) := by kernel_rfl
theorem gq5_f'  (a b : Iv) (l u rl ru : Int) (k : Nat) : stepF P V0 1 97 (condOf P 35 3) (gq5_s  a b l u rl ru) (.b false :: []) 1000 (fun _ => some (gq5_f  a b l u rl ru)) k =
  some (.normal, k, [(decide (cmp3 (tI (W u)) (tI (W ru)) > 0)) = false, (I a : Value) = I a, (I b : Value) = I b, (.ptr 0 0 : SV) = .ptr 0 0, (.ptr 1 0 : SV) = .ptr 1 0, (.ptr 2 0 : SV) = .ptr 2 0, (.ptr 27 0 : SV) = .ptr 27 0, (.ptr 38 0 : SV) = .ptr 38 0, (.ptr 40 0 : SV) = .ptr 40 0, (.ptr 41 0 : SV) = .ptr 41 0, (.int .i64 3 : Value) = .int .i64 3, (.ptr 214 0 : SV) = .ptr 214 0, (.ptr 229 0 : SV) = .ptr 229 0, (I a : Value) = I a, (I b : Value) = I b, (I (⟨0, 0, false⟩) : Value) = I (⟨0, 0, false⟩), (.int .i64 a.lo : Value) = .int .i64 a.lo, (.int .i64 a.hi : Value) = .int .i64 a.hi, (.bool a.bad : Value) = .bool a.bad, (.int .i64 b.lo : Value) = .int .i64 b.lo, (.int .i64 b.hi : Value) = .int .i64 b.hi, (.bool b.bad : Value) = .bool b.bad, (.agg #[.int .i64 a.lo, .int .i64 a.lo, .int .i64 a.hi, .int .i64 a.hi] : Value) = .agg #[.int .i64 a.lo, .int .i64 a.lo, .int .i64 a.hi, .int .i64 a.hi], (.agg #[.int .i64 b.lo, .int .i64 b.hi, .int .i64 b.lo, .int .i64 b.hi] : Value) = .agg #[.int .i64 b.lo, .int .i64 b.hi, .int .i64 b.lo, .int .i64 b.hi], (W rl : Value) = W rl, (W ru : Value) = W (mxW u ru), (W l : Value) = W l, (W u : Value) = W u]) := by kernel_rfl
noncomputable def gq5  (a b : Iv) (l u rl ru : Int) (hw : wfSt [229, 214, 178, 163, 127, 112, 72, 57, 41, 40, 38, 27, 5, 2, 1, 0] (gq5_s  a b l u rl ru) = true) (hf : wfSt [229, 214, 178, 163, 127, 112, 72, 57, 41, 40, 38, 27, 5, 2, 1, 0] (gq5_f  a b l u rl ru) = true) : CodeC P :=
  onceC mo V0 (by rfl) 1 97 (condOf P 35 3) [229, 214, 178, 163, 127, 112, 72, 57, 41, 40, 38, 27, 5, 2, 1, 0] (gq5_s  a b l u rl ru) .normal (gq5_f  a b l u rl ru) rfl rfl hw hf [] rfl rfl (by
    cases h : ((decide (cmp3 (tI (W u)) (tI (W ru)) > 0))) with
    | true => exact step_run (fun k => gq5_t  a b l u rl ru k) (ps_cons h (ps_cons rfl (ps_cons rfl (ps_cons rfl (ps_cons rfl (ps_cons rfl (ps_cons rfl (ps_cons rfl (ps_cons rfl (ps_cons rfl (ps_cons rfl (ps_cons rfl (ps_cons rfl (ps_cons rfl (ps_cons rfl (ps_cons rfl (ps_cons rfl (ps_cons rfl (ps_cons rfl (ps_cons rfl (ps_cons rfl (ps_cons rfl (ps_cons rfl (ps_cons rfl (ps_cons rfl (ps_cons (by rw [mxW_t h]) (ps_cons rfl (ps_cons rfl ps_nil)))))))))))))))))))))))))))) rfl (fun S1 hk => ⟨rfl, hk⟩)
    | false => exact step_run (fun k => gq5_f'  a b l u rl ru k) (ps_cons h (ps_cons rfl (ps_cons rfl (ps_cons rfl (ps_cons rfl (ps_cons rfl (ps_cons rfl (ps_cons rfl (ps_cons rfl (ps_cons rfl (ps_cons rfl (ps_cons rfl (ps_cons rfl (ps_cons rfl (ps_cons rfl (ps_cons rfl (ps_cons rfl (ps_cons rfl (ps_cons rfl (ps_cons rfl (ps_cons rfl (ps_cons rfl (ps_cons rfl (ps_cons rfl (ps_cons rfl (ps_cons (by rw [mxW_f h]) (ps_cons rfl (ps_cons rfl ps_nil)))))))))))))))))))))))))))) rfl (fun S1 hk => ⟨rfl, hk⟩))
noncomputable def GQ (a b : Iv) : Env P := ⟨⟨cOnes :: [R3.cFloor, R3.cCeil] ++ Rd.refC, [rFine]⟩, [(gq0  a b (qf a.lo b.hi) (qc a.lo b.hi) (qf a.lo b.lo) (qc a.lo b.lo) (by kernel_rfl) (by kernel_rfl)), (gq1  a b (qf a.lo b.hi) (qc a.lo b.hi) (mnW (qf a.lo b.hi) (qf a.lo b.lo)) (qc a.lo b.lo) (by kernel_rfl) (by kernel_rfl)), (gq2  a b (qf a.hi b.lo) (qc a.hi b.lo) (mnW (qf a.lo b.hi) (qf a.lo b.lo)) (mxW (qc a.lo b.hi) (qc a.lo b.lo)) (by kernel_rfl) (by kernel_rfl)), (gq3  a b (qf a.hi b.lo) (qc a.hi b.lo) (mnW (qf a.hi b.lo) (mnW (qf a.lo b.hi) (qf a.lo b.lo))) (mxW (qc a.lo b.hi) (qc a.lo b.lo)) (by kernel_rfl) (by kernel_rfl)), (gq4  a b (qf a.hi b.hi) (qc a.hi b.hi) (mnW (qf a.hi b.lo) (mnW (qf a.lo b.hi) (qf a.lo b.lo))) (mxW (qc a.hi b.lo) (mxW (qc a.lo b.hi) (qc a.lo b.lo))) (by kernel_rfl) (by kernel_rfl)), (gq5  a b (qf a.hi b.hi) (qc a.hi b.hi) (mnW (qf a.hi b.hi) (mnW (qf a.hi b.lo) (mnW (qf a.lo b.hi) (qf a.lo b.lo)))) (mxW (qc a.hi b.lo) (mxW (qc a.lo b.hi) (qc a.lo b.lo))) (by kernel_rfl) (by kernel_rfl))], 20, []⟩
def gM (a b : Iv) (tl : List Prop) : List Prop :=
  (ofP [.int .i64 a.lo]) ::
  (ofP [.int .i64 b.lo]) ::
  (P2 [W (a.lo * 1073741824), W b.lo]) ::
  (ofP [.int .i64 a.lo]) ::
  (ofP [.int .i64 b.lo]) ::
  (P2 [W (a.lo * 1073741824), W b.lo]) ::
  (ofP [.int .i64 a.lo]) ::
  (ofP [.int .i64 b.hi]) ::
  (P2 [W (a.lo * 1073741824), W b.hi]) ::
  (ofP [.int .i64 a.lo]) ::
  (ofP [.int .i64 b.hi]) ::
  (P2 [W (a.lo * 1073741824), W b.hi]) ::
  (P2 [W (qv fq (tI (W (a.lo * 1073741824))) (tI (W b.hi))), W (qv fq (tI (W (a.lo * 1073741824))) (tI (W b.lo)))]) ::
  ((condOf P 35 2) = (condOf P 35 2)) ::
  ((.bool (decide (cmp3 (tI (W (qv fq (tI (W (a.lo * 1073741824))) (tI (W b.hi))))) (tI (W (qv fq (tI (W (a.lo * 1073741824))) (tI (W b.lo))))) < 0)) : Value) = .bool (decide (cmp3 (tI (W (qf a.lo b.hi))) (tI (W (qf a.lo b.lo))) < 0))) ::
  ((I a : Value) = I a) ::
  ((I b : Value) = I b) ::
  ((.ptr 0 0 : SV) = .ptr 0 0) ::
  ((.ptr 1 0 : SV) = .ptr 1 0) ::
  ((.ptr 2 0 : SV) = .ptr 2 0) ::
  ((.ptr 27 0 : SV) = .ptr 27 0) ::
  ((.ptr 38 0 : SV) = .ptr 38 0) ::
  ((.ptr 40 0 : SV) = .ptr 40 0) ::
  ((.ptr 41 0 : SV) = .ptr 41 0) ::
  ((.int .i64 1 : Value) = .int .i64 1) ::
  ((.ptr 112 0 : SV) = .ptr 112 0) ::
  ((.ptr 127 0 : SV) = .ptr 127 0) ::
  ((I a : Value) = I a) ::
  ((I b : Value) = I b) ::
  ((I (⟨0, 0, false⟩) : Value) = I (⟨0, 0, false⟩)) ::
  ((.int .i64 a.lo : Value) = .int .i64 a.lo) ::
  ((.int .i64 a.hi : Value) = .int .i64 a.hi) ::
  ((.bool a.bad : Value) = .bool a.bad) ::
  ((.int .i64 b.lo : Value) = .int .i64 b.lo) ::
  ((.int .i64 b.hi : Value) = .int .i64 b.hi) ::
  ((.bool b.bad : Value) = .bool b.bad) ::
  ((.agg #[.int .i64 a.lo, .int .i64 a.lo, .int .i64 a.hi, .int .i64 a.hi] : Value) = .agg #[.int .i64 a.lo, .int .i64 a.lo, .int .i64 a.hi, .int .i64 a.hi]) ::
  ((.agg #[.int .i64 b.lo, .int .i64 b.hi, .int .i64 b.lo, .int .i64 b.hi] : Value) = .agg #[.int .i64 b.lo, .int .i64 b.hi, .int .i64 b.lo, .int .i64 b.hi]) ::
  ((W (qv fq (tI (W (a.lo * 1073741824))) (tI (W b.lo))) : Value) = W (qf a.lo b.lo)) ::
  ((W (qv cq (tI (W (a.lo * 1073741824))) (tI (W b.lo))) : Value) = W (qc a.lo b.lo)) ::
  ((W (qv fq (tI (W (a.lo * 1073741824))) (tI (W b.hi))) : Value) = W (qf a.lo b.hi)) ::
  ((W (qv cq (tI (W (a.lo * 1073741824))) (tI (W b.hi))) : Value) = W (qc a.lo b.hi)) ::
  (P2 [W (qc a.lo b.hi), W (qc a.lo b.lo)]) ::
  ((condOf P 35 3) = (condOf P 35 3)) ::
  ((.bool (decide (cmp3 (tI (W (qc a.lo b.hi))) (tI (W (qc a.lo b.lo))) > 0)) : Value) = .bool (decide (cmp3 (tI (W (qc a.lo b.hi))) (tI (W (qc a.lo b.lo))) > 0))) ::
  ((I a : Value) = I a) ::
  ((I b : Value) = I b) ::
  ((.ptr 0 0 : SV) = .ptr 0 0) ::
  ((.ptr 1 0 : SV) = .ptr 1 0) ::
  ((.ptr 2 0 : SV) = .ptr 2 0) ::
  ((.ptr 27 0 : SV) = .ptr 27 0) ::
  ((.ptr 38 0 : SV) = .ptr 38 0) ::
  ((.ptr 40 0 : SV) = .ptr 40 0) ::
  ((.ptr 41 0 : SV) = .ptr 41 0) ::
  ((.int .i64 1 : Value) = .int .i64 1) ::
  ((.ptr 112 0 : SV) = .ptr 112 0) ::
  ((.ptr 127 0 : SV) = .ptr 127 0) ::
  ((I a : Value) = I a) ::
  ((I b : Value) = I b) ::
  ((I (⟨0, 0, false⟩) : Value) = I (⟨0, 0, false⟩)) ::
  ((.int .i64 a.lo : Value) = .int .i64 a.lo) ::
  ((.int .i64 a.hi : Value) = .int .i64 a.hi) ::
  ((.bool a.bad : Value) = .bool a.bad) ::
  ((.int .i64 b.lo : Value) = .int .i64 b.lo) ::
  ((.int .i64 b.hi : Value) = .int .i64 b.hi) ::
  ((.bool b.bad : Value) = .bool b.bad) ::
  ((.agg #[.int .i64 a.lo, .int .i64 a.lo, .int .i64 a.hi, .int .i64 a.hi] : Value) = .agg #[.int .i64 a.lo, .int .i64 a.lo, .int .i64 a.hi, .int .i64 a.hi]) ::
  ((.agg #[.int .i64 b.lo, .int .i64 b.hi, .int .i64 b.lo, .int .i64 b.hi] : Value) = .agg #[.int .i64 b.lo, .int .i64 b.hi, .int .i64 b.lo, .int .i64 b.hi]) ::
  ((W (mnW (qf a.lo b.hi) (qf a.lo b.lo)) : Value) = W (mnW (qf a.lo b.hi) (qf a.lo b.lo))) ::
  ((W (qc a.lo b.lo) : Value) = W (qc a.lo b.lo)) ::
  ((W (qf a.lo b.hi) : Value) = W (qf a.lo b.hi)) ::
  ((W (qc a.lo b.hi) : Value) = W (qc a.lo b.hi)) ::
  (ofP [.int .i64 a.hi]) ::
  (ofP [.int .i64 b.lo]) ::
  (P2 [W (a.hi * 1073741824), W b.lo]) ::
  (ofP [.int .i64 a.hi]) ::
  (ofP [.int .i64 b.lo]) ::
  (P2 [W (a.hi * 1073741824), W b.lo]) ::
  (P2 [W (qv fq (tI (W (a.hi * 1073741824))) (tI (W b.lo))), W (mnW (qf a.lo b.hi) (qf a.lo b.lo))]) ::
  ((condOf P 35 2) = (condOf P 35 2)) ::
  ((.bool (decide (cmp3 (tI (W (qv fq (tI (W (a.hi * 1073741824))) (tI (W b.lo))))) (tI (W (mnW (qf a.lo b.hi) (qf a.lo b.lo)))) < 0)) : Value) = .bool (decide (cmp3 (tI (W (qf a.hi b.lo))) (tI (W (mnW (qf a.lo b.hi) (qf a.lo b.lo)))) < 0))) ::
  ((I a : Value) = I a) ::
  ((I b : Value) = I b) ::
  ((.ptr 0 0 : SV) = .ptr 0 0) ::
  ((.ptr 1 0 : SV) = .ptr 1 0) ::
  ((.ptr 2 0 : SV) = .ptr 2 0) ::
  ((.ptr 27 0 : SV) = .ptr 27 0) ::
  ((.ptr 38 0 : SV) = .ptr 38 0) ::
  ((.ptr 40 0 : SV) = .ptr 40 0) ::
  ((.ptr 41 0 : SV) = .ptr 41 0) ::
  ((.int .i64 2 : Value) = .int .i64 2) ::
  ((.ptr 163 0 : SV) = .ptr 163 0) ::
  ((.ptr 178 0 : SV) = .ptr 178 0) ::
  ((I a : Value) = I a) ::
  ((I b : Value) = I b) ::
  ((I (⟨0, 0, false⟩) : Value) = I (⟨0, 0, false⟩)) ::
  ((.int .i64 a.lo : Value) = .int .i64 a.lo) ::
  ((.int .i64 a.hi : Value) = .int .i64 a.hi) ::
  ((.bool a.bad : Value) = .bool a.bad) ::
  ((.int .i64 b.lo : Value) = .int .i64 b.lo) ::
  ((.int .i64 b.hi : Value) = .int .i64 b.hi) ::
  ((.bool b.bad : Value) = .bool b.bad) ::
  ((.agg #[.int .i64 a.lo, .int .i64 a.lo, .int .i64 a.hi, .int .i64 a.hi] : Value) = .agg #[.int .i64 a.lo, .int .i64 a.lo, .int .i64 a.hi, .int .i64 a.hi]) ::
  ((.agg #[.int .i64 b.lo, .int .i64 b.hi, .int .i64 b.lo, .int .i64 b.hi] : Value) = .agg #[.int .i64 b.lo, .int .i64 b.hi, .int .i64 b.lo, .int .i64 b.hi]) ::
  ((W (mnW (qf a.lo b.hi) (qf a.lo b.lo)) : Value) = W (mnW (qf a.lo b.hi) (qf a.lo b.lo))) ::
  ((W (mxW (qc a.lo b.hi) (qc a.lo b.lo)) : Value) = W (mxW (qc a.lo b.hi) (qc a.lo b.lo))) ::
  ((W (qv fq (tI (W (a.hi * 1073741824))) (tI (W b.lo))) : Value) = W (qf a.hi b.lo)) ::
  ((W (qv cq (tI (W (a.hi * 1073741824))) (tI (W b.lo))) : Value) = W (qc a.hi b.lo)) ::
  (P2 [W (qc a.hi b.lo), W (mxW (qc a.lo b.hi) (qc a.lo b.lo))]) ::
  ((condOf P 35 3) = (condOf P 35 3)) ::
  ((.bool (decide (cmp3 (tI (W (qc a.hi b.lo))) (tI (W (mxW (qc a.lo b.hi) (qc a.lo b.lo)))) > 0)) : Value) = .bool (decide (cmp3 (tI (W (qc a.hi b.lo))) (tI (W (mxW (qc a.lo b.hi) (qc a.lo b.lo)))) > 0))) ::
  ((I a : Value) = I a) ::
  ((I b : Value) = I b) ::
  ((.ptr 0 0 : SV) = .ptr 0 0) ::
  ((.ptr 1 0 : SV) = .ptr 1 0) ::
  ((.ptr 2 0 : SV) = .ptr 2 0) ::
  ((.ptr 27 0 : SV) = .ptr 27 0) ::
  ((.ptr 38 0 : SV) = .ptr 38 0) ::
  ((.ptr 40 0 : SV) = .ptr 40 0) ::
  ((.ptr 41 0 : SV) = .ptr 41 0) ::
  ((.int .i64 2 : Value) = .int .i64 2) ::
  ((.ptr 163 0 : SV) = .ptr 163 0) ::
  ((.ptr 178 0 : SV) = .ptr 178 0) ::
  ((I a : Value) = I a) ::
  ((I b : Value) = I b) ::
  ((I (⟨0, 0, false⟩) : Value) = I (⟨0, 0, false⟩)) ::
  ((.int .i64 a.lo : Value) = .int .i64 a.lo) ::
  ((.int .i64 a.hi : Value) = .int .i64 a.hi) ::
  ((.bool a.bad : Value) = .bool a.bad) ::
  ((.int .i64 b.lo : Value) = .int .i64 b.lo) ::
  ((.int .i64 b.hi : Value) = .int .i64 b.hi) ::
  ((.bool b.bad : Value) = .bool b.bad) ::
  ((.agg #[.int .i64 a.lo, .int .i64 a.lo, .int .i64 a.hi, .int .i64 a.hi] : Value) = .agg #[.int .i64 a.lo, .int .i64 a.lo, .int .i64 a.hi, .int .i64 a.hi]) ::
  ((.agg #[.int .i64 b.lo, .int .i64 b.hi, .int .i64 b.lo, .int .i64 b.hi] : Value) = .agg #[.int .i64 b.lo, .int .i64 b.hi, .int .i64 b.lo, .int .i64 b.hi]) ::
  ((W (mnW (qf a.hi b.lo) (mnW (qf a.lo b.hi) (qf a.lo b.lo))) : Value) = W (mnW (qf a.hi b.lo) (mnW (qf a.lo b.hi) (qf a.lo b.lo)))) ::
  ((W (mxW (qc a.lo b.hi) (qc a.lo b.lo)) : Value) = W (mxW (qc a.lo b.hi) (qc a.lo b.lo))) ::
  ((W (qf a.hi b.lo) : Value) = W (qf a.hi b.lo)) ::
  ((W (qc a.hi b.lo) : Value) = W (qc a.hi b.lo)) ::
  (ofP [.int .i64 a.hi]) ::
  (ofP [.int .i64 b.hi]) ::
  (P2 [W (a.hi * 1073741824), W b.hi]) ::
  (ofP [.int .i64 a.hi]) ::
  (ofP [.int .i64 b.hi]) ::
  (P2 [W (a.hi * 1073741824), W b.hi]) ::
  (P2 [W (qv fq (tI (W (a.hi * 1073741824))) (tI (W b.hi))), W (mnW (qf a.hi b.lo) (mnW (qf a.lo b.hi) (qf a.lo b.lo)))]) ::
  ((condOf P 35 2) = (condOf P 35 2)) ::
  ((.bool (decide (cmp3 (tI (W (qv fq (tI (W (a.hi * 1073741824))) (tI (W b.hi))))) (tI (W (mnW (qf a.hi b.lo) (mnW (qf a.lo b.hi) (qf a.lo b.lo))))) < 0)) : Value) = .bool (decide (cmp3 (tI (W (qf a.hi b.hi))) (tI (W (mnW (qf a.hi b.lo) (mnW (qf a.lo b.hi) (qf a.lo b.lo))))) < 0))) ::
  ((I a : Value) = I a) ::
  ((I b : Value) = I b) ::
  ((.ptr 0 0 : SV) = .ptr 0 0) ::
  ((.ptr 1 0 : SV) = .ptr 1 0) ::
  ((.ptr 2 0 : SV) = .ptr 2 0) ::
  ((.ptr 27 0 : SV) = .ptr 27 0) ::
  ((.ptr 38 0 : SV) = .ptr 38 0) ::
  ((.ptr 40 0 : SV) = .ptr 40 0) ::
  ((.ptr 41 0 : SV) = .ptr 41 0) ::
  ((.int .i64 3 : Value) = .int .i64 3) ::
  ((.ptr 214 0 : SV) = .ptr 214 0) ::
  ((.ptr 229 0 : SV) = .ptr 229 0) ::
  ((I a : Value) = I a) ::
  ((I b : Value) = I b) ::
  ((I (⟨0, 0, false⟩) : Value) = I (⟨0, 0, false⟩)) ::
  ((.int .i64 a.lo : Value) = .int .i64 a.lo) ::
  ((.int .i64 a.hi : Value) = .int .i64 a.hi) ::
  ((.bool a.bad : Value) = .bool a.bad) ::
  ((.int .i64 b.lo : Value) = .int .i64 b.lo) ::
  ((.int .i64 b.hi : Value) = .int .i64 b.hi) ::
  ((.bool b.bad : Value) = .bool b.bad) ::
  ((.agg #[.int .i64 a.lo, .int .i64 a.lo, .int .i64 a.hi, .int .i64 a.hi] : Value) = .agg #[.int .i64 a.lo, .int .i64 a.lo, .int .i64 a.hi, .int .i64 a.hi]) ::
  ((.agg #[.int .i64 b.lo, .int .i64 b.hi, .int .i64 b.lo, .int .i64 b.hi] : Value) = .agg #[.int .i64 b.lo, .int .i64 b.hi, .int .i64 b.lo, .int .i64 b.hi]) ::
  ((W (mnW (qf a.hi b.lo) (mnW (qf a.lo b.hi) (qf a.lo b.lo))) : Value) = W (mnW (qf a.hi b.lo) (mnW (qf a.lo b.hi) (qf a.lo b.lo)))) ::
  ((W (mxW (qc a.hi b.lo) (mxW (qc a.lo b.hi) (qc a.lo b.lo))) : Value) = W (mxW (qc a.hi b.lo) (mxW (qc a.lo b.hi) (qc a.lo b.lo)))) ::
  ((W (qv fq (tI (W (a.hi * 1073741824))) (tI (W b.hi))) : Value) = W (qf a.hi b.hi)) ::
  ((W (qv cq (tI (W (a.hi * 1073741824))) (tI (W b.hi))) : Value) = W (qc a.hi b.hi)) ::
  (P2 [W (qc a.hi b.hi), W (mxW (qc a.hi b.lo) (mxW (qc a.lo b.hi) (qc a.lo b.lo)))]) ::
  ((condOf P 35 3) = (condOf P 35 3)) ::
  ((.bool (decide (cmp3 (tI (W (qc a.hi b.hi))) (tI (W (mxW (qc a.hi b.lo) (mxW (qc a.lo b.hi) (qc a.lo b.lo))))) > 0)) : Value) = .bool (decide (cmp3 (tI (W (qc a.hi b.hi))) (tI (W (mxW (qc a.hi b.lo) (mxW (qc a.lo b.hi) (qc a.lo b.lo))))) > 0))) ::
  ((I a : Value) = I a) ::
  ((I b : Value) = I b) ::
  ((.ptr 0 0 : SV) = .ptr 0 0) ::
  ((.ptr 1 0 : SV) = .ptr 1 0) ::
  ((.ptr 2 0 : SV) = .ptr 2 0) ::
  ((.ptr 27 0 : SV) = .ptr 27 0) ::
  ((.ptr 38 0 : SV) = .ptr 38 0) ::
  ((.ptr 40 0 : SV) = .ptr 40 0) ::
  ((.ptr 41 0 : SV) = .ptr 41 0) ::
  ((.int .i64 3 : Value) = .int .i64 3) ::
  ((.ptr 214 0 : SV) = .ptr 214 0) ::
  ((.ptr 229 0 : SV) = .ptr 229 0) ::
  ((I a : Value) = I a) ::
  ((I b : Value) = I b) ::
  ((I (⟨0, 0, false⟩) : Value) = I (⟨0, 0, false⟩)) ::
  ((.int .i64 a.lo : Value) = .int .i64 a.lo) ::
  ((.int .i64 a.hi : Value) = .int .i64 a.hi) ::
  ((.bool a.bad : Value) = .bool a.bad) ::
  ((.int .i64 b.lo : Value) = .int .i64 b.lo) ::
  ((.int .i64 b.hi : Value) = .int .i64 b.hi) ::
  ((.bool b.bad : Value) = .bool b.bad) ::
  ((.agg #[.int .i64 a.lo, .int .i64 a.lo, .int .i64 a.hi, .int .i64 a.hi] : Value) = .agg #[.int .i64 a.lo, .int .i64 a.lo, .int .i64 a.hi, .int .i64 a.hi]) ::
  ((.agg #[.int .i64 b.lo, .int .i64 b.hi, .int .i64 b.lo, .int .i64 b.hi] : Value) = .agg #[.int .i64 b.lo, .int .i64 b.hi, .int .i64 b.lo, .int .i64 b.hi]) ::
  ((W (mnW (qf a.hi b.hi) (mnW (qf a.hi b.lo) (mnW (qf a.lo b.hi) (qf a.lo b.lo)))) : Value) = W (mnW (qf a.hi b.hi) (mnW (qf a.hi b.lo) (mnW (qf a.lo b.hi) (qf a.lo b.lo))))) ::
  ((W (mxW (qc a.hi b.lo) (mxW (qc a.lo b.hi) (qc a.lo b.lo))) : Value) = W (mxW (qc a.hi b.lo) (mxW (qc a.lo b.hi) (qc a.lo b.lo)))) ::
  ((W (qf a.hi b.hi) : Value) = W (qf a.hi b.hi)) ::
  ((W (qc a.hi b.hi) : Value) = W (qc a.hi b.hi)) ::
  tl
theorem gM_ok {a b : Iv} {tl : List Prop} (k1 : Corn a.lo b.lo) (k2 : Corn a.lo b.hi) (k3 : Corn a.hi b.lo) (k4 : Corn a.hi b.hi) (h : ∀ p ∈ tl, p) : ∀ p ∈ gM a b tl, p :=
  ps_cons (k1.hx) (ps_cons (k1.hy) (ps_cons (P2_W _ _) (ps_cons (k1.hx) (ps_cons (k1.hy) (ps_cons (P2_W _ _) (ps_cons (k1.hx) (ps_cons (k2.hy) (ps_cons (P2_W _ _) (ps_cons (k1.hx) (ps_cons (k2.hy) (ps_cons (P2_W _ _) (ps_cons (P2_W _ _) (ps_cons (rfl) (ps_cons (by rw [k2.f, k1.f]) (ps_cons (rfl) (ps_cons (rfl) (ps_cons (rfl) (ps_cons (rfl) (ps_cons (rfl) (ps_cons (rfl) (ps_cons (rfl) (ps_cons (rfl) (ps_cons (rfl) (ps_cons (rfl) (ps_cons (rfl) (ps_cons (rfl) (ps_cons (rfl) (ps_cons (rfl) (ps_cons (rfl) (ps_cons (rfl) (ps_cons (rfl) (ps_cons (rfl) (ps_cons (rfl) (ps_cons (rfl) (ps_cons (rfl) (ps_cons (rfl) (ps_cons (rfl) (ps_cons (by rw [k1.f]) (ps_cons (by rw [k1.c]) (ps_cons (by rw [k2.f]) (ps_cons (by rw [k2.c]) (ps_cons (P2_W _ _) (ps_cons (rfl) (ps_cons (rfl) (ps_cons (rfl) (ps_cons (rfl) (ps_cons (rfl) (ps_cons (rfl) (ps_cons (rfl) (ps_cons (rfl) (ps_cons (rfl) (ps_cons (rfl) (ps_cons (rfl) (ps_cons (rfl) (ps_cons (rfl) (ps_cons (rfl) (ps_cons (rfl) (ps_cons (rfl) (ps_cons (rfl) (ps_cons (rfl) (ps_cons (rfl) (ps_cons (rfl) (ps_cons (rfl) (ps_cons (rfl) (ps_cons (rfl) (ps_cons (rfl) (ps_cons (rfl) (ps_cons (rfl) (ps_cons (rfl) (ps_cons (rfl) (ps_cons (rfl) (ps_cons (k3.hx) (ps_cons (k1.hy) (ps_cons (P2_W _ _) (ps_cons (k3.hx) (ps_cons (k1.hy) (ps_cons (P2_W _ _) (ps_cons (P2_W _ _) (ps_cons (rfl) (ps_cons (by rw [k3.f]) (ps_cons (rfl) (ps_cons (rfl) (ps_cons (rfl) (ps_cons (rfl) (ps_cons (rfl) (ps_cons (rfl) (ps_cons (rfl) (ps_cons (rfl) (ps_cons (rfl) (ps_cons (rfl) (ps_cons (rfl) (ps_cons (rfl) (ps_cons (rfl) (ps_cons (rfl) (ps_cons (rfl) (ps_cons (rfl) (ps_cons (rfl) (ps_cons (rfl) (ps_cons (rfl) (ps_cons (rfl) (ps_cons (rfl) (ps_cons (rfl) (ps_cons (rfl) (ps_cons (rfl) (ps_cons (rfl) (ps_cons (by rw [k3.f]) (ps_cons (by rw [k3.c]) (ps_cons (P2_W _ _) (ps_cons (rfl) (ps_cons (rfl) (ps_cons (rfl) (ps_cons (rfl) (ps_cons (rfl) (ps_cons (rfl) (ps_cons (rfl) (ps_cons (rfl) (ps_cons (rfl) (ps_cons (rfl) (ps_cons (rfl) (ps_cons (rfl) (ps_cons (rfl) (ps_cons (rfl) (ps_cons (rfl) (ps_cons (rfl) (ps_cons (rfl) (ps_cons (rfl) (ps_cons (rfl) (ps_cons (rfl) (ps_cons (rfl) (ps_cons (rfl) (ps_cons (rfl) (ps_cons (rfl) (ps_cons (rfl) (ps_cons (rfl) (ps_cons (rfl) (ps_cons (rfl) (ps_cons (rfl) (ps_cons (k3.hx) (ps_cons (k2.hy) (ps_cons (P2_W _ _) (ps_cons (k3.hx) (ps_cons (k2.hy) (ps_cons (P2_W _ _) (ps_cons (P2_W _ _) (ps_cons (rfl) (ps_cons (by rw [k4.f]) (ps_cons (rfl) (ps_cons (rfl) (ps_cons (rfl) (ps_cons (rfl) (ps_cons (rfl) (ps_cons (rfl) (ps_cons (rfl) (ps_cons (rfl) (ps_cons (rfl) (ps_cons (rfl) (ps_cons (rfl) (ps_cons (rfl) (ps_cons (rfl) (ps_cons (rfl) (ps_cons (rfl) (ps_cons (rfl) (ps_cons (rfl) (ps_cons (rfl) (ps_cons (rfl) (ps_cons (rfl) (ps_cons (rfl) (ps_cons (rfl) (ps_cons (rfl) (ps_cons (rfl) (ps_cons (rfl) (ps_cons (by rw [k4.f]) (ps_cons (by rw [k4.c]) (ps_cons (P2_W _ _) (ps_cons (rfl) (ps_cons (rfl) (ps_cons (rfl) (ps_cons (rfl) (ps_cons (rfl) (ps_cons (rfl) (ps_cons (rfl) (ps_cons (rfl) (ps_cons (rfl) (ps_cons (rfl) (ps_cons (rfl) (ps_cons (rfl) (ps_cons (rfl) (ps_cons (rfl) (ps_cons (rfl) (ps_cons (rfl) (ps_cons (rfl) (ps_cons (rfl) (ps_cons (rfl) (ps_cons (rfl) (ps_cons (rfl) (ps_cons (rfl) (ps_cons (rfl) (ps_cons (rfl) (ps_cons (rfl) (ps_cons (rfl) (ps_cons (rfl) (ps_cons (rfl) (ps_cons (rfl) (h))))))))))))))))))))))))))))))))))))))))))))))))))))))))))))))))))))))))))))))))))))))))))))))))))))))))))))))))))))))))))))))))))))))))))))))))))))))))))))))))))))))))))))))))))))))))))))))))))))))))))))
theorem gQF_run (a b : Iv) : runF P (GQ a b) 2 35 [I a, I b] (.lit :: (.b true :: [])) =
  some (I (⟨0, 0, true⟩), [fineP [ivs [a, b]], (!(fineL [a, b])) = true]) := by kernel_rfl
theorem gQF_leaf (a b : Iv) (hf : fineL [a, b] = false) : Gives P 35 #[I a, I b] (I (quotI a b)) := by
  refine gives_of_run mo (gQF_run a b) (ps_cons (ivs_ok (by simp)) (ps_cons (by rw [hf]; rfl) (ps_nil))) ?_
  unfold quotI
  rw [hf]
  rfl
theorem gQS_run (a b : Iv) : runF P (GQ a b) 2 35 [I a, I b] (.lit :: (.b false :: (.b true :: (.b true :: [])))) =
  some (I (⟨0, 0, true⟩), [fineP [ivs [a, b]], (!(fineL [a, b])) = false, (decide (b.lo ≤ 0)) = true, (decide (b.hi ≥ 0)) = true]) := by kernel_rfl
theorem gQS_leaf (a b : Iv) (hf : fineL [a, b] = true) (h1 : b.lo ≤ 0) (h2 : 0 ≤ b.hi) : Gives P 35 #[I a, I b] (I (quotI a b)) := by
  refine gives_of_run mo (gQS_run a b) (ps_cons (ivs_ok (by simp)) (ps_cons (by rw [hf]; rfl) (ps_cons (decide_eq_true (by omega)) (ps_cons (decide_eq_true (by omega)) (ps_nil))))) ?_
  unfold quotI
  rw [hf, decide_eq_false (show ¬ b.lo > 0 by omega), decide_eq_false (show ¬ b.hi < 0 by omega)]
  rfl
theorem gQC0_run (a b : Iv) : runF P (GQ a b) 3 35 [I a, I b] (.lit :: (.b false :: (.b false :: (lits 17 (.n 0 :: (.lit :: (.n 1 :: (lits 6 (.n 2 :: (.lit :: (.n 3 :: (lits 6 (.n 4 :: (.lit :: (.n 5 :: (.lit :: (.lit :: (.lit :: (.b true :: []))))))))))))))))))) =
  some (I (⟨0, 0, true⟩), (fineP [ivs [a, b]]) :: ((!(fineL [a, b])) = false) :: ((decide (b.lo ≤ 0)) = false) :: gM a b [P1 [W (mnW (qf a.hi b.hi) (mnW (qf a.hi b.lo) (mnW (qf a.lo b.hi) (qf a.lo b.lo))))], P1 [W (mxW (qc a.hi b.hi) (mxW (qc a.hi b.lo) (mxW (qc a.lo b.hi) (qc a.lo b.lo))))], (!(i64B (tI (W (mnW (qf a.hi b.hi) (mnW (qf a.hi b.lo) (mnW (qf a.lo b.hi) (qf a.lo b.lo)))))))) = true]) := by kernel_rfl
theorem gQC0_leaf (a b : Iv) (hf : fineL [a, b] = true) (hs : 0 < b.lo) (k1 : Corn a.lo b.lo) (k2 : Corn a.lo b.hi) (k3 : Corn a.hi b.lo) (k4 : Corn a.hi b.hi) (q1 : i64B (loQ a b) = false) : Gives P 35 #[I a, I b] (I (quotI a b)) := by
  obtain ⟨el, eh⟩ := ends_eq k1 k2 k3 k4
  refine gives_of_run mo (gQC0_run a b) (ps_cons (ivs_ok (by simp)) (ps_cons (by rw [hf]; rfl) (ps_cons (decide_eq_false (by omega)) (gM_ok k1 k2 k3 k4 (ps_cons (P1_W _) (ps_cons (P1_W _) (ps_cons (by rw [el, q1]; rfl) (ps_nil)))))))) ?_
  rw [quot_sign hf (.inl hs)]
  rw [told_out (.inl q1)]; rfl
theorem gQC1_run (a b : Iv) : runF P (GQ a b) 3 35 [I a, I b] (.lit :: (.b false :: (.b false :: (lits 17 (.n 0 :: (.lit :: (.n 1 :: (lits 6 (.n 2 :: (.lit :: (.n 3 :: (lits 6 (.n 4 :: (.lit :: (.n 5 :: (.lit :: (.lit :: (.lit :: (.b false :: (.b true :: [])))))))))))))))))))) =
  some (I (⟨0, 0, true⟩), (fineP [ivs [a, b]]) :: ((!(fineL [a, b])) = false) :: ((decide (b.lo ≤ 0)) = false) :: gM a b [P1 [W (mnW (qf a.hi b.hi) (mnW (qf a.hi b.lo) (mnW (qf a.lo b.hi) (qf a.lo b.lo))))], P1 [W (mxW (qc a.hi b.hi) (mxW (qc a.hi b.lo) (mxW (qc a.lo b.hi) (qc a.lo b.lo))))], (!(i64B (tI (W (mnW (qf a.hi b.hi) (mnW (qf a.hi b.lo) (mnW (qf a.lo b.hi) (qf a.lo b.lo)))))))) = false, (!(i64B (tI (W (mxW (qc a.hi b.hi) (mxW (qc a.hi b.lo) (mxW (qc a.lo b.hi) (qc a.lo b.lo)))))))) = true]) := by kernel_rfl
theorem gQC1_leaf (a b : Iv) (hf : fineL [a, b] = true) (hs : 0 < b.lo) (k1 : Corn a.lo b.lo) (k2 : Corn a.lo b.hi) (k3 : Corn a.hi b.lo) (k4 : Corn a.hi b.hi) (q1 : i64B (loQ a b) = true) (q2 : i64B (hiQ a b) = false) : Gives P 35 #[I a, I b] (I (quotI a b)) := by
  obtain ⟨el, eh⟩ := ends_eq k1 k2 k3 k4
  refine gives_of_run mo (gQC1_run a b) (ps_cons (ivs_ok (by simp)) (ps_cons (by rw [hf]; rfl) (ps_cons (decide_eq_false (by omega)) (gM_ok k1 k2 k3 k4 (ps_cons (P1_W _) (ps_cons (P1_W _) (ps_cons (by rw [el, q1]; rfl) (ps_cons (by rw [eh, q2]; rfl) (ps_nil))))))))) ?_
  rw [quot_sign hf (.inl hs)]
  rw [told_out (.inr q2)]; rfl
theorem gQC2_run (a b : Iv) : runF P (GQ a b) 3 35 [I a, I b] (.lit :: (.b false :: (.b false :: (lits 17 (.n 0 :: (.lit :: (.n 1 :: (lits 6 (.n 2 :: (.lit :: (.n 3 :: (lits 6 (.n 4 :: (.lit :: (.n 5 :: (.lit :: (.lit :: (.lit :: (.b false :: (.b false :: (.lit :: (.b true :: [])))))))))))))))))))))) =
  some (I (⟨0, 0, true⟩), (fineP [ivs [a, b]]) :: ((!(fineL [a, b])) = false) :: ((decide (b.lo ≤ 0)) = false) :: gM a b [P1 [W (mnW (qf a.hi b.hi) (mnW (qf a.hi b.lo) (mnW (qf a.lo b.hi) (qf a.lo b.lo))))], P1 [W (mxW (qc a.hi b.hi) (mxW (qc a.hi b.lo) (mxW (qc a.lo b.hi) (qc a.lo b.lo))))], (!(i64B (tI (W (mnW (qf a.hi b.hi) (mnW (qf a.hi b.lo) (mnW (qf a.lo b.hi) (qf a.lo b.lo)))))))) = false, (!(i64B (tI (W (mxW (qc a.hi b.hi) (mxW (qc a.hi b.lo) (mxW (qc a.lo b.hi) (qc a.lo b.lo)))))))) = false, fineP [ivs [⟨(if i64B (tI (W (mnW (qf a.hi b.hi) (mnW (qf a.hi b.lo) (mnW (qf a.lo b.hi) (qf a.lo b.lo)))))) then tI (W (mnW (qf a.hi b.hi) (mnW (qf a.hi b.lo) (mnW (qf a.lo b.hi) (qf a.lo b.lo))))) else 0), (if i64B (tI (W (mxW (qc a.hi b.hi) (mxW (qc a.hi b.lo) (mxW (qc a.lo b.hi) (qc a.lo b.lo)))))) then tI (W (mxW (qc a.hi b.hi) (mxW (qc a.hi b.lo) (mxW (qc a.lo b.hi) (qc a.lo b.lo))))) else 0), false⟩]], (!(fineL [⟨(if i64B (tI (W (mnW (qf a.hi b.hi) (mnW (qf a.hi b.lo) (mnW (qf a.lo b.hi) (qf a.lo b.lo)))))) then tI (W (mnW (qf a.hi b.hi) (mnW (qf a.hi b.lo) (mnW (qf a.lo b.hi) (qf a.lo b.lo))))) else 0), (if i64B (tI (W (mxW (qc a.hi b.hi) (mxW (qc a.hi b.lo) (mxW (qc a.lo b.hi) (qc a.lo b.lo)))))) then tI (W (mxW (qc a.hi b.hi) (mxW (qc a.hi b.lo) (mxW (qc a.lo b.hi) (qc a.lo b.lo))))) else 0), false⟩])) = true]) := by kernel_rfl
theorem gQC2_leaf (a b : Iv) (hf : fineL [a, b] = true) (hs : 0 < b.lo) (k1 : Corn a.lo b.lo) (k2 : Corn a.lo b.hi) (k3 : Corn a.hi b.lo) (k4 : Corn a.hi b.hi) (q1 : i64B (loQ a b) = true) (q2 : i64B (hiQ a b) = true) (q3 : fineL [⟨loQ a b, hiQ a b, false⟩] = false) : Gives P 35 #[I a, I b] (I (quotI a b)) := by
  obtain ⟨el, eh⟩ := ends_eq k1 k2 k3 k4
  refine gives_of_run mo (gQC2_run a b) (ps_cons (ivs_ok (by simp)) (ps_cons (by rw [hf]; rfl) (ps_cons (decide_eq_false (by omega)) (gM_ok k1 k2 k3 k4 (ps_cons (P1_W _) (ps_cons (P1_W _) (ps_cons (by rw [el, q1]; rfl) (ps_cons (by rw [eh, q2]; rfl) (ps_cons (ivs_ok (by simp)) (ps_cons (by rw [el, eh, if_pos q1, if_pos q2, q3]; rfl) (ps_nil))))))))))) ?_
  rw [quot_sign hf (.inl hs)]
  rw [told_no (fine1 ▸ q3)]; rfl
theorem gQC3_run (a b : Iv) : runF P (GQ a b) 2 35 [I a, I b] (.lit :: (.b false :: (.b false :: (lits 17 (.n 0 :: (.lit :: (.n 1 :: (lits 6 (.n 2 :: (.lit :: (.n 3 :: (lits 6 (.n 4 :: (.lit :: (.n 5 :: (.lit :: (.lit :: (.lit :: (.b false :: (.b false :: (.lit :: (.b false :: [])))))))))))))))))))))) =
  some (I (⟨(if i64B (tI (W (mnW (qf a.hi b.hi) (mnW (qf a.hi b.lo) (mnW (qf a.lo b.hi) (qf a.lo b.lo)))))) then tI (W (mnW (qf a.hi b.hi) (mnW (qf a.hi b.lo) (mnW (qf a.lo b.hi) (qf a.lo b.lo))))) else 0), (if i64B (tI (W (mxW (qc a.hi b.hi) (mxW (qc a.hi b.lo) (mxW (qc a.lo b.hi) (qc a.lo b.lo)))))) then tI (W (mxW (qc a.hi b.hi) (mxW (qc a.hi b.lo) (mxW (qc a.lo b.hi) (qc a.lo b.lo))))) else 0), false⟩), (fineP [ivs [a, b]]) :: ((!(fineL [a, b])) = false) :: ((decide (b.lo ≤ 0)) = false) :: gM a b [P1 [W (mnW (qf a.hi b.hi) (mnW (qf a.hi b.lo) (mnW (qf a.lo b.hi) (qf a.lo b.lo))))], P1 [W (mxW (qc a.hi b.hi) (mxW (qc a.hi b.lo) (mxW (qc a.lo b.hi) (qc a.lo b.lo))))], (!(i64B (tI (W (mnW (qf a.hi b.hi) (mnW (qf a.hi b.lo) (mnW (qf a.lo b.hi) (qf a.lo b.lo)))))))) = false, (!(i64B (tI (W (mxW (qc a.hi b.hi) (mxW (qc a.hi b.lo) (mxW (qc a.lo b.hi) (qc a.lo b.lo)))))))) = false, fineP [ivs [⟨(if i64B (tI (W (mnW (qf a.hi b.hi) (mnW (qf a.hi b.lo) (mnW (qf a.lo b.hi) (qf a.lo b.lo)))))) then tI (W (mnW (qf a.hi b.hi) (mnW (qf a.hi b.lo) (mnW (qf a.lo b.hi) (qf a.lo b.lo))))) else 0), (if i64B (tI (W (mxW (qc a.hi b.hi) (mxW (qc a.hi b.lo) (mxW (qc a.lo b.hi) (qc a.lo b.lo)))))) then tI (W (mxW (qc a.hi b.hi) (mxW (qc a.hi b.lo) (mxW (qc a.lo b.hi) (qc a.lo b.lo))))) else 0), false⟩]], (!(fineL [⟨(if i64B (tI (W (mnW (qf a.hi b.hi) (mnW (qf a.hi b.lo) (mnW (qf a.lo b.hi) (qf a.lo b.lo)))))) then tI (W (mnW (qf a.hi b.hi) (mnW (qf a.hi b.lo) (mnW (qf a.lo b.hi) (qf a.lo b.lo))))) else 0), (if i64B (tI (W (mxW (qc a.hi b.hi) (mxW (qc a.hi b.lo) (mxW (qc a.lo b.hi) (qc a.lo b.lo)))))) then tI (W (mxW (qc a.hi b.hi) (mxW (qc a.hi b.lo) (mxW (qc a.lo b.hi) (qc a.lo b.lo))))) else 0), false⟩])) = false]) := by kernel_rfl
theorem gQC3_leaf (a b : Iv) (hf : fineL [a, b] = true) (hs : 0 < b.lo) (k1 : Corn a.lo b.lo) (k2 : Corn a.lo b.hi) (k3 : Corn a.hi b.lo) (k4 : Corn a.hi b.hi) (q1 : i64B (loQ a b) = true) (q2 : i64B (hiQ a b) = true) (q3 : fineL [⟨loQ a b, hiQ a b, false⟩] = true) : Gives P 35 #[I a, I b] (I (quotI a b)) := by
  obtain ⟨el, eh⟩ := ends_eq k1 k2 k3 k4
  refine gives_of_run mo (gQC3_run a b) (ps_cons (ivs_ok (by simp)) (ps_cons (by rw [hf]; rfl) (ps_cons (decide_eq_false (by omega)) (gM_ok k1 k2 k3 k4 (ps_cons (P1_W _) (ps_cons (P1_W _) (ps_cons (by rw [el, q1]; rfl) (ps_cons (by rw [eh, q2]; rfl) (ps_cons (ivs_ok (by simp)) (ps_cons (by rw [el, eh, if_pos q1, if_pos q2, q3]; rfl) (ps_nil))))))))))) ?_
  rw [quot_sign hf (.inl hs)]
  rw [el, eh, if_pos q1, if_pos q2, told_ok (fine1 ▸ q3)]
theorem gQD0_run (a b : Iv) : runF P (GQ a b) 3 35 [I a, I b] (.lit :: (.b false :: (.b true :: (.b false :: (lits 16 (.n 0 :: (.lit :: (.n 1 :: (lits 6 (.n 2 :: (.lit :: (.n 3 :: (lits 6 (.n 4 :: (.lit :: (.n 5 :: (.lit :: (.lit :: (.lit :: (.b true :: [])))))))))))))))))))) =
  some (I (⟨0, 0, true⟩), (fineP [ivs [a, b]]) :: ((!(fineL [a, b])) = false) :: ((decide (b.lo ≤ 0)) = true) :: ((decide (b.hi ≥ 0)) = false) :: gM a b [P1 [W (mnW (qf a.hi b.hi) (mnW (qf a.hi b.lo) (mnW (qf a.lo b.hi) (qf a.lo b.lo))))], P1 [W (mxW (qc a.hi b.hi) (mxW (qc a.hi b.lo) (mxW (qc a.lo b.hi) (qc a.lo b.lo))))], (!(i64B (tI (W (mnW (qf a.hi b.hi) (mnW (qf a.hi b.lo) (mnW (qf a.lo b.hi) (qf a.lo b.lo)))))))) = true]) := by kernel_rfl
theorem gQD0_leaf (a b : Iv) (hf : fineL [a, b] = true) (hs : b.hi < 0) (hb : b.lo ≤ b.hi) (k1 : Corn a.lo b.lo) (k2 : Corn a.lo b.hi) (k3 : Corn a.hi b.lo) (k4 : Corn a.hi b.hi) (q1 : i64B (loQ a b) = false) : Gives P 35 #[I a, I b] (I (quotI a b)) := by
  obtain ⟨el, eh⟩ := ends_eq k1 k2 k3 k4
  refine gives_of_run mo (gQD0_run a b) (ps_cons (ivs_ok (by simp)) (ps_cons (by rw [hf]; rfl) (ps_cons (decide_eq_true (by omega)) (ps_cons (decide_eq_false (by omega)) (gM_ok k1 k2 k3 k4 (ps_cons (P1_W _) (ps_cons (P1_W _) (ps_cons (by rw [el, q1]; rfl) (ps_nil))))))))) ?_
  rw [quot_sign hf (.inr hs)]
  rw [told_out (.inl q1)]; rfl
theorem gQD1_run (a b : Iv) : runF P (GQ a b) 3 35 [I a, I b] (.lit :: (.b false :: (.b true :: (.b false :: (lits 16 (.n 0 :: (.lit :: (.n 1 :: (lits 6 (.n 2 :: (.lit :: (.n 3 :: (lits 6 (.n 4 :: (.lit :: (.n 5 :: (.lit :: (.lit :: (.lit :: (.b false :: (.b true :: []))))))))))))))))))))) =
  some (I (⟨0, 0, true⟩), (fineP [ivs [a, b]]) :: ((!(fineL [a, b])) = false) :: ((decide (b.lo ≤ 0)) = true) :: ((decide (b.hi ≥ 0)) = false) :: gM a b [P1 [W (mnW (qf a.hi b.hi) (mnW (qf a.hi b.lo) (mnW (qf a.lo b.hi) (qf a.lo b.lo))))], P1 [W (mxW (qc a.hi b.hi) (mxW (qc a.hi b.lo) (mxW (qc a.lo b.hi) (qc a.lo b.lo))))], (!(i64B (tI (W (mnW (qf a.hi b.hi) (mnW (qf a.hi b.lo) (mnW (qf a.lo b.hi) (qf a.lo b.lo)))))))) = false, (!(i64B (tI (W (mxW (qc a.hi b.hi) (mxW (qc a.hi b.lo) (mxW (qc a.lo b.hi) (qc a.lo b.lo)))))))) = true]) := by kernel_rfl
theorem gQD1_leaf (a b : Iv) (hf : fineL [a, b] = true) (hs : b.hi < 0) (hb : b.lo ≤ b.hi) (k1 : Corn a.lo b.lo) (k2 : Corn a.lo b.hi) (k3 : Corn a.hi b.lo) (k4 : Corn a.hi b.hi) (q1 : i64B (loQ a b) = true) (q2 : i64B (hiQ a b) = false) : Gives P 35 #[I a, I b] (I (quotI a b)) := by
  obtain ⟨el, eh⟩ := ends_eq k1 k2 k3 k4
  refine gives_of_run mo (gQD1_run a b) (ps_cons (ivs_ok (by simp)) (ps_cons (by rw [hf]; rfl) (ps_cons (decide_eq_true (by omega)) (ps_cons (decide_eq_false (by omega)) (gM_ok k1 k2 k3 k4 (ps_cons (P1_W _) (ps_cons (P1_W _) (ps_cons (by rw [el, q1]; rfl) (ps_cons (by rw [eh, q2]; rfl) (ps_nil)))))))))) ?_
  rw [quot_sign hf (.inr hs)]
  rw [told_out (.inr q2)]; rfl
theorem gQD2_run (a b : Iv) : runF P (GQ a b) 3 35 [I a, I b] (.lit :: (.b false :: (.b true :: (.b false :: (lits 16 (.n 0 :: (.lit :: (.n 1 :: (lits 6 (.n 2 :: (.lit :: (.n 3 :: (lits 6 (.n 4 :: (.lit :: (.n 5 :: (.lit :: (.lit :: (.lit :: (.b false :: (.b false :: (.lit :: (.b true :: []))))))))))))))))))))))) =
  some (I (⟨0, 0, true⟩), (fineP [ivs [a, b]]) :: ((!(fineL [a, b])) = false) :: ((decide (b.lo ≤ 0)) = true) :: ((decide (b.hi ≥ 0)) = false) :: gM a b [P1 [W (mnW (qf a.hi b.hi) (mnW (qf a.hi b.lo) (mnW (qf a.lo b.hi) (qf a.lo b.lo))))], P1 [W (mxW (qc a.hi b.hi) (mxW (qc a.hi b.lo) (mxW (qc a.lo b.hi) (qc a.lo b.lo))))], (!(i64B (tI (W (mnW (qf a.hi b.hi) (mnW (qf a.hi b.lo) (mnW (qf a.lo b.hi) (qf a.lo b.lo)))))))) = false, (!(i64B (tI (W (mxW (qc a.hi b.hi) (mxW (qc a.hi b.lo) (mxW (qc a.lo b.hi) (qc a.lo b.lo)))))))) = false, fineP [ivs [⟨(if i64B (tI (W (mnW (qf a.hi b.hi) (mnW (qf a.hi b.lo) (mnW (qf a.lo b.hi) (qf a.lo b.lo)))))) then tI (W (mnW (qf a.hi b.hi) (mnW (qf a.hi b.lo) (mnW (qf a.lo b.hi) (qf a.lo b.lo))))) else 0), (if i64B (tI (W (mxW (qc a.hi b.hi) (mxW (qc a.hi b.lo) (mxW (qc a.lo b.hi) (qc a.lo b.lo)))))) then tI (W (mxW (qc a.hi b.hi) (mxW (qc a.hi b.lo) (mxW (qc a.lo b.hi) (qc a.lo b.lo))))) else 0), false⟩]], (!(fineL [⟨(if i64B (tI (W (mnW (qf a.hi b.hi) (mnW (qf a.hi b.lo) (mnW (qf a.lo b.hi) (qf a.lo b.lo)))))) then tI (W (mnW (qf a.hi b.hi) (mnW (qf a.hi b.lo) (mnW (qf a.lo b.hi) (qf a.lo b.lo))))) else 0), (if i64B (tI (W (mxW (qc a.hi b.hi) (mxW (qc a.hi b.lo) (mxW (qc a.lo b.hi) (qc a.lo b.lo)))))) then tI (W (mxW (qc a.hi b.hi) (mxW (qc a.hi b.lo) (mxW (qc a.lo b.hi) (qc a.lo b.lo))))) else 0), false⟩])) = true]) := by kernel_rfl
theorem gQD2_leaf (a b : Iv) (hf : fineL [a, b] = true) (hs : b.hi < 0) (hb : b.lo ≤ b.hi) (k1 : Corn a.lo b.lo) (k2 : Corn a.lo b.hi) (k3 : Corn a.hi b.lo) (k4 : Corn a.hi b.hi) (q1 : i64B (loQ a b) = true) (q2 : i64B (hiQ a b) = true) (q3 : fineL [⟨loQ a b, hiQ a b, false⟩] = false) : Gives P 35 #[I a, I b] (I (quotI a b)) := by
  obtain ⟨el, eh⟩ := ends_eq k1 k2 k3 k4
  refine gives_of_run mo (gQD2_run a b) (ps_cons (ivs_ok (by simp)) (ps_cons (by rw [hf]; rfl) (ps_cons (decide_eq_true (by omega)) (ps_cons (decide_eq_false (by omega)) (gM_ok k1 k2 k3 k4 (ps_cons (P1_W _) (ps_cons (P1_W _) (ps_cons (by rw [el, q1]; rfl) (ps_cons (by rw [eh, q2]; rfl) (ps_cons (ivs_ok (by simp)) (ps_cons (by rw [el, eh, if_pos q1, if_pos q2, q3]; rfl) (ps_nil)))))))))))) ?_
  rw [quot_sign hf (.inr hs)]
  rw [told_no (fine1 ▸ q3)]; rfl
theorem gQD3_run (a b : Iv) : runF P (GQ a b) 2 35 [I a, I b] (.lit :: (.b false :: (.b true :: (.b false :: (lits 16 (.n 0 :: (.lit :: (.n 1 :: (lits 6 (.n 2 :: (.lit :: (.n 3 :: (lits 6 (.n 4 :: (.lit :: (.n 5 :: (.lit :: (.lit :: (.lit :: (.b false :: (.b false :: (.lit :: (.b false :: []))))))))))))))))))))))) =
  some (I (⟨(if i64B (tI (W (mnW (qf a.hi b.hi) (mnW (qf a.hi b.lo) (mnW (qf a.lo b.hi) (qf a.lo b.lo)))))) then tI (W (mnW (qf a.hi b.hi) (mnW (qf a.hi b.lo) (mnW (qf a.lo b.hi) (qf a.lo b.lo))))) else 0), (if i64B (tI (W (mxW (qc a.hi b.hi) (mxW (qc a.hi b.lo) (mxW (qc a.lo b.hi) (qc a.lo b.lo)))))) then tI (W (mxW (qc a.hi b.hi) (mxW (qc a.hi b.lo) (mxW (qc a.lo b.hi) (qc a.lo b.lo))))) else 0), false⟩), (fineP [ivs [a, b]]) :: ((!(fineL [a, b])) = false) :: ((decide (b.lo ≤ 0)) = true) :: ((decide (b.hi ≥ 0)) = false) :: gM a b [P1 [W (mnW (qf a.hi b.hi) (mnW (qf a.hi b.lo) (mnW (qf a.lo b.hi) (qf a.lo b.lo))))], P1 [W (mxW (qc a.hi b.hi) (mxW (qc a.hi b.lo) (mxW (qc a.lo b.hi) (qc a.lo b.lo))))], (!(i64B (tI (W (mnW (qf a.hi b.hi) (mnW (qf a.hi b.lo) (mnW (qf a.lo b.hi) (qf a.lo b.lo)))))))) = false, (!(i64B (tI (W (mxW (qc a.hi b.hi) (mxW (qc a.hi b.lo) (mxW (qc a.lo b.hi) (qc a.lo b.lo)))))))) = false, fineP [ivs [⟨(if i64B (tI (W (mnW (qf a.hi b.hi) (mnW (qf a.hi b.lo) (mnW (qf a.lo b.hi) (qf a.lo b.lo)))))) then tI (W (mnW (qf a.hi b.hi) (mnW (qf a.hi b.lo) (mnW (qf a.lo b.hi) (qf a.lo b.lo))))) else 0), (if i64B (tI (W (mxW (qc a.hi b.hi) (mxW (qc a.hi b.lo) (mxW (qc a.lo b.hi) (qc a.lo b.lo)))))) then tI (W (mxW (qc a.hi b.hi) (mxW (qc a.hi b.lo) (mxW (qc a.lo b.hi) (qc a.lo b.lo))))) else 0), false⟩]], (!(fineL [⟨(if i64B (tI (W (mnW (qf a.hi b.hi) (mnW (qf a.hi b.lo) (mnW (qf a.lo b.hi) (qf a.lo b.lo)))))) then tI (W (mnW (qf a.hi b.hi) (mnW (qf a.hi b.lo) (mnW (qf a.lo b.hi) (qf a.lo b.lo))))) else 0), (if i64B (tI (W (mxW (qc a.hi b.hi) (mxW (qc a.hi b.lo) (mxW (qc a.lo b.hi) (qc a.lo b.lo)))))) then tI (W (mxW (qc a.hi b.hi) (mxW (qc a.hi b.lo) (mxW (qc a.lo b.hi) (qc a.lo b.lo))))) else 0), false⟩])) = false]) := by kernel_rfl
theorem gQD3_leaf (a b : Iv) (hf : fineL [a, b] = true) (hs : b.hi < 0) (hb : b.lo ≤ b.hi) (k1 : Corn a.lo b.lo) (k2 : Corn a.lo b.hi) (k3 : Corn a.hi b.lo) (k4 : Corn a.hi b.hi) (q1 : i64B (loQ a b) = true) (q2 : i64B (hiQ a b) = true) (q3 : fineL [⟨loQ a b, hiQ a b, false⟩] = true) : Gives P 35 #[I a, I b] (I (quotI a b)) := by
  obtain ⟨el, eh⟩ := ends_eq k1 k2 k3 k4
  refine gives_of_run mo (gQD3_run a b) (ps_cons (ivs_ok (by simp)) (ps_cons (by rw [hf]; rfl) (ps_cons (decide_eq_true (by omega)) (ps_cons (decide_eq_false (by omega)) (gM_ok k1 k2 k3 k4 (ps_cons (P1_W _) (ps_cons (P1_W _) (ps_cons (by rw [el, q1]; rfl) (ps_cons (by rw [eh, q2]; rfl) (ps_cons (ivs_ok (by simp)) (ps_cons (by rw [el, eh, if_pos q1, if_pos q2, q3]; rfl) (ps_nil)))))))))))) ?_
  rw [quot_sign hf (.inr hs)]
  rw [el, eh, if_pos q1, if_pos q2, told_ok (fine1 ▸ q3)]
theorem gq_all (a b : Iv) : Gives P 35 #[I a, I b] (I (quotI a b)) := by
  cases hf : fineL [a, b] with
  | false => exact gQF_leaf a b hf
  | true =>
    have ff := fine2.1 hf
    have ra := fine_iff.1 ff.1
    have rb := fine_iff.1 ff.2
    by_cases c1 : 0 < b.lo ∨ b.hi < 0
    · have k1 : Corn a.lo b.lo := corn (by unfold I64; omega) (by unfold I64; omega) (by omega)
      have k2 : Corn a.lo b.hi := corn (by unfold I64; omega) (by unfold I64; omega) (by omega)
      have k3 : Corn a.hi b.lo := corn (by unfold I64; omega) (by unfold I64; omega) (by omega)
      have k4 : Corn a.hi b.hi := corn (by unfold I64; omega) (by unfold I64; omega) (by omega)
      rcases c1 with hs | hs
      · cases q1 : i64B (loQ a b) with
        | false => exact gQC0_leaf a b hf hs k1 k2 k3 k4 q1
        | true =>
          cases q2 : i64B (hiQ a b) with
          | false => exact gQC1_leaf a b hf hs k1 k2 k3 k4 q1 q2
          | true =>
            cases q3 : fineL [⟨loQ a b, hiQ a b, false⟩] with
            | false => exact gQC2_leaf a b hf hs k1 k2 k3 k4 q1 q2 q3
            | true => exact gQC3_leaf a b hf hs k1 k2 k3 k4 q1 q2 q3
      · have hb := rb.2.2.1
        cases q1 : i64B (loQ a b) with
        | false => exact gQD0_leaf a b hf hs hb k1 k2 k3 k4 q1
        | true =>
          cases q2 : i64B (hiQ a b) with
          | false => exact gQD1_leaf a b hf hs hb k1 k2 k3 k4 q1 q2
          | true =>
            cases q3 : fineL [⟨loQ a b, hiQ a b, false⟩] with
            | false => exact gQD2_leaf a b hf hs hb k1 k2 k3 k4 q1 q2 q3
            | true => exact gQD3_leaf a b hf hs hb k1 k2 k3 k4 q1 q2 q3
    · exact gQS_leaf a b hf (by omega) (by omega)
theorem gq_gives (args : List Value) (h : iP2 args) : Gives P 35 args.toArray ((two2 fun a b => I (quotI a b)) args) := by
  unfold iP2 at h
  split at h
  · obtain ⟨⟨a, rfl⟩, b, rfl⟩ := h
    exact gq_all a b
  · exact h.elim
noncomputable def cQ6 : Ctr P := ⟨35, iP2, two2 fun a b => I (quotI a b), gq_gives⟩
end Go.R6
