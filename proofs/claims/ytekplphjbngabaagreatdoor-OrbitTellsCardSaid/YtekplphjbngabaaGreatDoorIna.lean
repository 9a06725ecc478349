/-
 Contracts of package inv: quotients. Printed by inB_gen.py.
-/
import Derived.Test.YtekplphjbngabaaGreatDoorRtb
import Derived.Test.YtekplphjbngabaaGreatDoorSta
import Derived.Test.YtekplphjbngabaaGreatDoorIvb
set_option maxRecDepth 100000
namespace Go.Nv
open Go Go.RowKit Go.Sx Go.Nm Go.Wd Go.Qt Go.Iv Go.Rt Go.Proofs
def timesV : List Value → Value
 | [.int _ x, .int _ y] => W (x * y)
 | _ => undef
def surP : List Value → Prop
 | [x, .int .i64 e] => IsW x ∧ e = 0
 | _ => False
def surV : List Value → Value
 | [x, _] => x
 | _ => undef
noncomputable def J5 : Env P := ⟨⟨wideC ++ quotC, []⟩, [], 10, []⟩
theorem times_run (x y : Int) : runF P J5 1 68 [.int .i64 x, .int .i64 y] [] =
 some (W (tI (W x) * tI (W y)), [ofP [.int .i64 x], ofP [.int .i64 y], P2 [W x, W y]]) := by kernel_rfl
theorem times_leaf (x y : Int) (hx : I64 x) (hy : I64 y) : Gives P 68 #[.int .i64 x, .int .i64 y] (W (x * y)) := by
 have e0 : tI (W x) = x := tI_in (i64_in hx)
 have e1 : tI (W y) = y := tI_in (i64_in hy)
 have R := times_run x y
 rw [e0, e1] at R
 refine gives_of_run mo R (ps_cons hx (ps_cons hy (ps_cons (P2_W _ _) ps_nil))) ?_
 rfl
theorem sure_run (x : Int) : runF P J5 2 66 [W x, .int .i64 0] [] =
 some (W x, []) := by kernel_rfl
theorem sure_leaf (x : Int)  : Gives P 66 #[W x, .int .i64 0] (W x) := by
 have R := sure_run x
 refine gives_of_run mo R ps_nil ?_
 rfl
theorem times_gives (args : List Value) (h : nP2 args) : Gives P 68 args.toArray (timesV args) := by
 unfold nP2 at h
 split at h
 · obtain ⟨hx, hy⟩ := h
   exact times_leaf _ _ hx hy
 · exact h.elim
noncomputable def cTimes : Ctr P := ⟨68, nP2, timesV, times_gives⟩
theorem sure_gives (args : List Value) (h : surP args) : Gives P 66 args.toArray (surV args) := by
 unfold surP at h
 split at h
 · obtain ⟨⟨x, rfl⟩, rfl⟩ := h
   exact sure_leaf x
 · exact h.elim
noncomputable def cSure : Ctr P := ⟨66, surP, surV, sure_gives⟩
noncomputable def tf : Func := Tryz.f116
noncomputable def tOps : Array Oper := opsOf (codeOf tf)
noncomputable def tRest : Code := restOf (codeOf tf)
noncomputable def toldN : DefC P :=
 recC mo Q0 (by rfl) 1 116 0 2 tf tOps tRest (tOps[0]?.getD default) (by kernel_rfl) (by kernel_rfl) (by kernel_rfl) (of_decide_eq_true (by kernel_rfl)) (by kernel_rfl) (by kernel_rfl) (by kernel_rfl) (of_decide_eq_true (by kernel_rfl)) (by kernel_rfl)
noncomputable def JN : Env P := ⟨⟨[cTimes, cSure] ++ wideC ++ quotC, [cFine]⟩, [], 10, [toldN]⟩
noncomputable def J2 : Env P := V0
structure Corn (x y : Int) : Prop where
 hx : I64 x
 hy : I64 y
 f : qv fq (tI (W (x * 1073741824))) (tI (W y)) = qf x y
 c : qv cq (tI (W (x * 1073741824))) (tI (W y)) = qc x y
 e : qe (tI (W (x * 1073741824))) (tI (W y)) = 0
 fi : InR (qf x y)
 ci : InR (qc x y)
theorem corn {x y : Int} (hx : I64 x) (hy : I64 y) (h : y ≠ 0) : Corn x y := by
 have s1 : Sm (x * 1073741824) := smmul hx i64one
 have s2 := sm64 hy
 have e1 : tI (W (x * 1073741824)) = x * 1073741824 := tI_in (inR_of s1)
 have e2 : tI (W y) = y := tI_in (inR_of s2)
 refine ⟨hx, hy, ?_, ?_, ?_, (fl_facts s1 s2 h).2.2.2.1, cq_in s1 s2 h⟩
 · rw [e1, e2, qv_ok fq s1 s2 h]; rfl
 · rw [e1, e2, qv_ok cq s1 s2 h]; rfl
 · rw [e1, e2, qe_ok s1 s2 h]
theorem i64_of_fine {x y : Int} (h : fine ⟨x, y, false⟩ = true) : i64B x = true ∧ i64B y = true := by
 have := fine_iff.1 h
 unfold i64B
 simp only [Bool.and_eq_true, decide_eq_true_eq]
 simp only at this
 omega
theorem told_not {x y : Int} (h : i64B x = false ∨ i64B y = false) : told ⟨x, y, false⟩ = bd := by
 refine told_no ?_
 rw [← Bool.not_eq_true]
 intro hf
 have := i64_of_fine hf
 rcases h with h | h
 · rw [this.1] at h; cases h
 · rw [this.2] at h; cases h
end Go.Nv
/-
 Contracts of package inv: inverses, squares, roots, signs, cubes. Printed by inC.py.
-/
namespace Go.Nv
open Go Go.RowKit Go.Sx Go.Nm Go.Wd Go.Qt Go.Iv Go.Rt Go.Proofs
noncomputable def JR : Env P := ⟨⟨[cTimes, cSure] ++ rootC ++ wideC ++ quotC, [cFine]⟩, [], 10, [toldN]⟩
noncomputable def JRn : Env P := ⟨⟨[cTimes] ++ rootC ++ wideC ++ quotC, [cFine]⟩, [], 10, [toldN]⟩
def i6 (x : Int) : Int := if i64B x then x else 0
theorem i6_ok {x : Int} (h : i64B x = true) : i6 x = x := if_pos h
def leastW (a : Iv) : Int := (if 0 > (if IntKind.i64.wrap (0 - a.hi) > a.lo then IntKind.i64.wrap (0 - a.hi) else a.lo) then 0 else (if IntKind.i64.wrap (0 - a.hi) > a.lo then IntKind.i64.wrap (0 - a.hi) else a.lo))
def mostW (a : Iv) : Int := (if IntKind.i64.wrap (0 - a.lo) > a.hi then IntKind.i64.wrap (0 - a.lo) else a.hi)
def rtW (x : Int) : Int := if 0 ≤ tI (W (x * 1073741824)) then rt (tI (W (x * 1073741824))) else 0
def rcW (x : Int) : Int := if 0 ≤ tI (W (x * 1073741824)) then rc (tI (W (x * 1073741824))) else 0
theorem sqF_run (a : Iv) : runF P JN 4 37 [I a] (.lit :: (.b true :: [])) =
 some (I (⟨0, 0, true⟩), [fineP [ivs [a]], (!(fineL [a])) = true]) := by kernel_rfl
theorem sqF_leaf (a : Iv) (hf : fineL [a] = false) : Gives P 37 #[I a] (I (squareI a)) := by
 refine gives_of_run mo (sqF_run a) (ps_cons (ivs_ok (by simp)) (ps_cons (neg_t hf) ps_nil)) ?_
 unfold squareI
 rw [hf]
 rfl
structure SqF (a : Iv) : Prop where
 i1 : I64 (leastW a)
 i2 : I64 (mostW a)
 e1 : qe (tI (W (leastW a * leastW a))) (tI (W 1073741824)) = 0
 e2 : qe (tI (W (mostW a * mostW a))) (tI (W 1073741824)) = 0
 el : tI (W (qv fq (tI (W (leastW a * leastW a))) (tI (W 1073741824)))) = fq (least a * least a) 1073741824
 eh : tI (W (qv cq (tI (W (mostW a * mostW a))) (tI (W 1073741824)))) = cq (most a * most a) 1073741824
theorem sqF {a : Iv} (hf : fineL [a] = true) : SqF a := by
 rw [fine1] at hf
 have ra := fine_iff.1 hf
 have w1 : IntKind.i64.wrap (0 - a.hi) = -a.hi := by rw [Int.zero_sub]; exact wr (by omega) (by omega)
 have w2 : IntKind.i64.wrap (0 - a.lo) = -a.lo := by rw [Int.zero_sub]; exact wr (by omega) (by omega)
 have el : leastW a = least a := by unfold leastW; rw [w1]; rfl
 have em : mostW a = most a := by unfold mostW; rw [w2]; rfl
 have l0 := (least_spec hf).1
 have m0 := most_spec hf
 have l1 : least a ≤ 1152921504606846976 := by
  rcases (least_spec hf).2.1 a.lo (Int.le_refl _) (by omega) with h | h <;> omega
 have i1 : I64 (least a) := by unfold I64; omega
 have i2 : I64 (most a) := by unfold I64; omega
 have s1 := smmul i1 i1
 have s2 := smmul i2 i2
 have so := sm64 i64one
 have e1 : tI (W (least a * least a)) = least a * least a := tI_in (inR_of s1)
 have e2 : tI (W (most a * most a)) = most a * most a := tI_in (inR_of s2)
 have e3 : tI (W 1073741824) = 1073741824 := tI_in (inR_of so)
 refine ⟨by rw [el]; exact i1, by rw [em]; exact i2, ?_, ?_, ?_, ?_⟩
 · rw [el, e1, e3, qe_ok s1 so (by decide)]
 · rw [em, e2, e3, qe_ok s2 so (by decide)]
 · rw [el, e1, e3, qv_ok fq s1 so (by decide), tI_in (fl_facts s1 so (by decide)).2.2.2.1]
 · rw [em, e2, e3, qv_ok cq s2 so (by decide), tI_in (cq_in s2 so (by decide))]
theorem sq0_run (a : Iv) : runF P JN 4 37 [I a] (.lit :: (.b false :: (.b false :: []))) =
 some (I (⟨0, 0, true⟩), [fineP [ivs [a]], (!(fineL [a])) = false, ofP [.int .i64 1073741824], nP2 [.int .i64 (leastW a), .int .i64 (leastW a)], P2 [W (leastW a * leastW a), W 1073741824], surP [W (qv fq (tI (W (leastW a * leastW a))) (tI (W 1073741824))), .int .i64 (qe (tI (W (leastW a * leastW a))) (tI (W 1073741824)))], nP2 [.int .i64 (mostW a), .int .i64 (mostW a)], P2 [W (mostW a * mostW a), W 1073741824], surP [W (qv cq (tI (W (mostW a * mostW a))) (tI (W 1073741824))), .int .i64 (qe (tI (W (mostW a * mostW a))) (tI (W 1073741824)))], P1 [W (qv fq (tI (W (leastW a * leastW a))) (tI (W 1073741824)))], P1 [W (qv cq (tI (W (mostW a * mostW a))) (tI (W 1073741824)))], (i64B (tI (W (qv fq (tI (W (leastW a * leastW a))) (tI (W 1073741824)))))) = false]) := by kernel_rfl
theorem sq0_leaf (a : Iv) (hf : fineL [a] = true) (q1 : i64B (fq (least a * least a) 1073741824) = false) : Gives P 37 #[I a] (I (squareI a)) := by
 have F := sqF hf
 have el := F.el
 have eh := F.eh
 refine gives_of_run mo (sq0_run a) (ps_cons (ivs_ok (by simp)) (ps_cons (neg_f hf) (ps_cons i64one (ps_cons ⟨F.i1, F.i1⟩ (ps_cons (P2_W _ _) (ps_cons ⟨⟨_, rfl⟩, F.e1⟩ (ps_cons ⟨F.i2, F.i2⟩ (ps_cons (P2_W _ _) (ps_cons ⟨⟨_, rfl⟩, F.e2⟩ (ps_cons (P1_W _) (ps_cons (P1_W _) (ps_cons (by rw [el]; exact q1) ps_nil)))))))))))) ?_
 rw [(show squareI a = told ⟨fq (least a * least a) 1073741824, cq (most a * most a) 1073741824, false⟩ by unfold squareI; rw [hf]; rfl)]
 rw [told_not (.inl q1)]
 rfl
theorem sq1_run (a : Iv) : runF P JN 4 37 [I a] (.lit :: (.b false :: (.b true :: (.b false :: [])))) =
 some (I (⟨0, 0, true⟩), [fineP [ivs [a]], (!(fineL [a])) = false, ofP [.int .i64 1073741824], nP2 [.int .i64 (leastW a), .int .i64 (leastW a)], P2 [W (leastW a * leastW a), W 1073741824], surP [W (qv fq (tI (W (leastW a * leastW a))) (tI (W 1073741824))), .int .i64 (qe (tI (W (leastW a * leastW a))) (tI (W 1073741824)))], nP2 [.int .i64 (mostW a), .int .i64 (mostW a)], P2 [W (mostW a * mostW a), W 1073741824], surP [W (qv cq (tI (W (mostW a * mostW a))) (tI (W 1073741824))), .int .i64 (qe (tI (W (mostW a * mostW a))) (tI (W 1073741824)))], P1 [W (qv fq (tI (W (leastW a * leastW a))) (tI (W 1073741824)))], P1 [W (qv cq (tI (W (mostW a * mostW a))) (tI (W 1073741824)))], (i64B (tI (W (qv fq (tI (W (leastW a * leastW a))) (tI (W 1073741824)))))) = true, (i64B (tI (W (qv cq (tI (W (mostW a * mostW a))) (tI (W 1073741824)))))) = false]) := by kernel_rfl
theorem sq1_leaf (a : Iv) (hf : fineL [a] = true) (q1 : i64B (fq (least a * least a) 1073741824) = true) (q2 : i64B (cq (most a * most a) 1073741824) = false) : Gives P 37 #[I a] (I (squareI a)) := by
 have F := sqF hf
 have el := F.el
 have eh := F.eh
 refine gives_of_run mo (sq1_run a) (ps_cons (ivs_ok (by simp)) (ps_cons (neg_f hf) (ps_cons i64one (ps_cons ⟨F.i1, F.i1⟩ (ps_cons (P2_W _ _) (ps_cons ⟨⟨_, rfl⟩, F.e1⟩ (ps_cons ⟨F.i2, F.i2⟩ (ps_cons (P2_W _ _) (ps_cons ⟨⟨_, rfl⟩, F.e2⟩ (ps_cons (P1_W _) (ps_cons (P1_W _) (ps_cons (by rw [el]; exact q1) (ps_cons (by rw [eh]; exact q2) ps_nil))))))))))))) ?_
 rw [(show squareI a = told ⟨fq (least a * least a) 1073741824, cq (most a * most a) 1073741824, false⟩ by unfold squareI; rw [hf]; rfl)]
 rw [told_not (.inr q2)]
 rfl
theorem sq2_run (a : Iv) : runF P JN 4 37 [I a] (.lit :: (.b false :: (.b true :: (.b true :: (.lit :: (.b true :: [])))))) =
 some (I (⟨0, 0, true⟩), [fineP [ivs [a]], (!(fineL [a])) = false, ofP [.int .i64 1073741824], nP2 [.int .i64 (leastW a), .int .i64 (leastW a)], P2 [W (leastW a * leastW a), W 1073741824], surP [W (qv fq (tI (W (leastW a * leastW a))) (tI (W 1073741824))), .int .i64 (qe (tI (W (leastW a * leastW a))) (tI (W 1073741824)))], nP2 [.int .i64 (mostW a), .int .i64 (mostW a)], P2 [W (mostW a * mostW a), W 1073741824], surP [W (qv cq (tI (W (mostW a * mostW a))) (tI (W 1073741824))), .int .i64 (qe (tI (W (mostW a * mostW a))) (tI (W 1073741824)))], P1 [W (qv fq (tI (W (leastW a * leastW a))) (tI (W 1073741824)))], P1 [W (qv cq (tI (W (mostW a * mostW a))) (tI (W 1073741824)))], (i64B (tI (W (qv fq (tI (W (leastW a * leastW a))) (tI (W 1073741824)))))) = true, (i64B (tI (W (qv cq (tI (W (mostW a * mostW a))) (tI (W 1073741824)))))) = true, fineP [ivs [⟨(i6 (tI (W (qv fq (tI (W (leastW a * leastW a))) (tI (W 1073741824)))))), (i6 (tI (W (qv cq (tI (W (mostW a * mostW a))) (tI (W 1073741824)))))), false⟩]], (!(fineL [⟨(i6 (tI (W (qv fq (tI (W (leastW a * leastW a))) (tI (W 1073741824)))))), (i6 (tI (W (qv cq (tI (W (mostW a * mostW a))) (tI (W 1073741824)))))), false⟩])) = true]) := by kernel_rfl
theorem sq2_leaf (a : Iv) (hf : fineL [a] = true) (q1 : i64B (fq (least a * least a) 1073741824) = true) (q2 : i64B (cq (most a * most a) 1073741824) = true) (q3 : fineL [⟨fq (least a * least a) 1073741824, cq (most a * most a) 1073741824, false⟩] = false) : Gives P 37 #[I a] (I (squareI a)) := by
 have F := sqF hf
 have el := F.el
 have eh := F.eh
 refine gives_of_run mo (sq2_run a) (ps_cons (ivs_ok (by simp)) (ps_cons (neg_f hf) (ps_cons i64one (ps_cons ⟨F.i1, F.i1⟩ (ps_cons (P2_W _ _) (ps_cons ⟨⟨_, rfl⟩, F.e1⟩ (ps_cons ⟨F.i2, F.i2⟩ (ps_cons (P2_W _ _) (ps_cons ⟨⟨_, rfl⟩, F.e2⟩ (ps_cons (P1_W _) (ps_cons (P1_W _) (ps_cons (by rw [el]; exact q1) (ps_cons (by rw [eh]; exact q2) (ps_cons (ivs_ok (by simp)) (ps_cons (by rw [el, eh, i6_ok q1, i6_ok q2, q3]; rfl) ps_nil))))))))))))))) ?_
 rw [(show squareI a = told ⟨fq (least a * least a) 1073741824, cq (most a * most a) 1073741824, false⟩ by unfold squareI; rw [hf]; rfl)]
 rw [told_no (fine1 ▸ q3)]
 rfl
theorem sq3_run (a : Iv) : runF P JN 4 37 [I a] (.lit :: (.b false :: (.b true :: (.b true :: (.lit :: (.b false :: [])))))) =
 some (I (⟨(i6 (tI (W (qv fq (tI (W (leastW a * leastW a))) (tI (W 1073741824)))))), (i6 (tI (W (qv cq (tI (W (mostW a * mostW a))) (tI (W 1073741824)))))), false⟩), [fineP [ivs [a]], (!(fineL [a])) = false, ofP [.int .i64 1073741824], nP2 [.int .i64 (leastW a), .int .i64 (leastW a)], P2 [W (leastW a * leastW a), W 1073741824], surP [W (qv fq (tI (W (leastW a * leastW a))) (tI (W 1073741824))), .int .i64 (qe (tI (W (leastW a * leastW a))) (tI (W 1073741824)))], nP2 [.int .i64 (mostW a), .int .i64 (mostW a)], P2 [W (mostW a * mostW a), W 1073741824], surP [W (qv cq (tI (W (mostW a * mostW a))) (tI (W 1073741824))), .int .i64 (qe (tI (W (mostW a * mostW a))) (tI (W 1073741824)))], P1 [W (qv fq (tI (W (leastW a * leastW a))) (tI (W 1073741824)))], P1 [W (qv cq (tI (W (mostW a * mostW a))) (tI (W 1073741824)))], (i64B (tI (W (qv fq (tI (W (leastW a * leastW a))) (tI (W 1073741824)))))) = true, (i64B (tI (W (qv cq (tI (W (mostW a * mostW a))) (tI (W 1073741824)))))) = true, fineP [ivs [⟨(i6 (tI (W (qv fq (tI (W (leastW a * leastW a))) (tI (W 1073741824)))))), (i6 (tI (W (qv cq (tI (W (mostW a * mostW a))) (tI (W 1073741824)))))), false⟩]], (!(fineL [⟨(i6 (tI (W (qv fq (tI (W (leastW a * leastW a))) (tI (W 1073741824)))))), (i6 (tI (W (qv cq (tI (W (mostW a * mostW a))) (tI (W 1073741824)))))), false⟩])) = false]) := by kernel_rfl
theorem sq3_leaf (a : Iv) (hf : fineL [a] = true) (q1 : i64B (fq (least a * least a) 1073741824) = true) (q2 : i64B (cq (most a * most a) 1073741824) = true) (q3 : fineL [⟨fq (least a * least a) 1073741824, cq (most a * most a) 1073741824, false⟩] = true) : Gives P 37 #[I a] (I (squareI a)) := by
 have F := sqF hf
 have el := F.el
 have eh := F.eh
 refine gives_of_run mo (sq3_run a) (ps_cons (ivs_ok (by simp)) (ps_cons (neg_f hf) (ps_cons i64one (ps_cons ⟨F.i1, F.i1⟩ (ps_cons (P2_W _ _) (ps_cons ⟨⟨_, rfl⟩, F.e1⟩ (ps_cons ⟨F.i2, F.i2⟩ (ps_cons (P2_W _ _) (ps_cons ⟨⟨_, rfl⟩, F.e2⟩ (ps_cons (P1_W _) (ps_cons (P1_W _) (ps_cons (by rw [el]; exact q1) (ps_cons (by rw [eh]; exact q2) (ps_cons (ivs_ok (by simp)) (ps_cons (by rw [el, eh, i6_ok q1, i6_ok q2, q3]; rfl) ps_nil))))))))))))))) ?_
 rw [(show squareI a = told ⟨fq (least a * least a) 1073741824, cq (most a * most a) 1073741824, false⟩ by unfold squareI; rw [hf]; rfl)]
 rw [told_ok (fine1 ▸ q3), el, eh, i6_ok q1, i6_ok q2]
theorem square_gives (args : List Value) (h : iP1 args) : Gives P 37 args.toArray ((one1 fun a => I (squareI a)) args) := by
 unfold iP1 at h
 split at h
 · obtain ⟨a, rfl⟩ := h
   show Gives P _ #[I a] (I (squareI a))
   cases hf : fineL [a] with
   | false => exact sqF_leaf a hf
   | true =>
    cases q1 : i64B (fq (least a * least a) 1073741824) with
    | false => exact sq0_leaf a hf q1
    | true =>
     cases q2 : i64B (cq (most a * most a) 1073741824) with
     | false => exact sq1_leaf a hf q1 q2
     | true =>
      cases q3 : fineL [⟨fq (least a * least a) 1073741824, cq (most a * most a) 1073741824, false⟩] with
      | false => exact sq2_leaf a hf q1 q2 q3
      | true => exact sq3_leaf a hf q1 q2 q3
 · exact h.elim
noncomputable def cSquare : Ctr P := ⟨37, iP1, one1 fun a => I (squareI a), square_gives⟩
theorem rtF_run (a : Iv) : runF P JR 4 35 [I a] (.lit :: (.b true :: [])) =
 some (I (⟨0, 0, true⟩), [fineP [ivs [a]], (!(fineL [a])) = true]) := by kernel_rfl
theorem rtF_leaf (a : Iv) (hf : fineL [a] = false) : Gives P 35 #[I a] (I (rootI a)) := by
 refine gives_of_run mo (rtF_run a) (ps_cons (ivs_ok (by simp)) (ps_cons (neg_t hf) ps_nil)) ?_
 unfold rootI
 rw [hf]
 rfl
structure RtF (a : Iv) : Prop where
 i1 : I64 a.lo
 i2 : I64 a.hi
 e0 : ∀ {x : Int}, I64 x → tI (W (x * 1073741824)) = x * 1073741824
 n : ∀ {x : Int}, I64 x → x < 0 → rootE (tI (W (x * 1073741824))) = 2
 z : ∀ {x : Int}, I64 x → 0 ≤ x → rootE (tI (W (x * 1073741824))) = 0
theorem rtF {a : Iv} (hf : fineL [a] = true) : RtF a := by
 rw [fine1] at hf
 obtain ⟨a1, a2⟩ := fine64 hf
 have e0 : ∀ {x : Int}, I64 x → tI (W (x * 1073741824)) = x * 1073741824 := fun h => tI_in (inR_of (smmul h i64one))
 refine ⟨a1, a2, e0, fun h hx => ?_, fun h hx => ?_⟩
 · rw [e0 h]; unfold rootE; rw [if_neg (by omega)]
 · rw [e0 h]; unfold rootE; rw [if_pos (by omega)]
theorem rtW_ok {a : Iv} (hf : fineL [a] = true) (h0 : 0 ≤ a.lo) : tI (W (rtW a.lo)) = rt (a.lo * 1073741824) ∧ tI (W (rcW a.hi)) = rc (a.hi * 1073741824) := by
 have F := rtF hf
 rw [fine1] at hf
 have ra := fine_iff.1 hf
 have j1 := ones_in h0 (by omega)
 have j2 := ones_in (x := a.hi) (by omega) (by omega)
 have r1 := rt_range j1.1 j1.2
 have r2 := rc_top (x := a.hi) (by omega) (by omega)
 have r3 := (rc_is j2.1 j2.2).1
 have k128 : (2 : Int) ^ 128 = 340282366920938463463374607431768211456 := by decide
 rw [k128] at r1
 unfold rtW rcW
 rw [F.e0 F.i1, F.e0 F.i2, if_pos j1.1, if_pos j2.1]
 exact ⟨tI_in (by unfold InR; simp only [HH]; omega), tI_in (by unfold InR; simp only [HH]; omega)⟩
theorem rtN_run (a : Iv) : runF P JRn 5 35 [I a] (.lit :: (.b false :: (.b true :: []))) =
 some (I (⟨0, 0, true⟩), [fineP [ivs [a]], (!(fineL [a])) = false, nP2 [.int .i64 a.lo, .int .i64 1073741824], P1 [W (a.lo * 1073741824)], (!(rootE (tI (W (a.lo * 1073741824))) == 0)) = true]) := by kernel_rfl
theorem rtN_leaf (a : Iv) (hf : fineL [a] = true) (h0 : a.lo < 0) : Gives P 35 #[I a] (I (rootI a)) := by
 have F := rtF hf
 refine gives_of_run mo (rtN_run a) (ps_cons (ivs_ok (by simp)) (ps_cons (neg_f hf) (ps_cons ⟨F.i1, i64one⟩ (ps_cons (P1_W _) (ps_cons (by rw [F.n F.i1 h0]; rfl) ps_nil))))) ?_
 unfold rootI
 rw [decide_eq_false (by omega : ¬ 0 ≤ a.lo), Bool.and_false]
 rfl
theorem rt0_run (a : Iv) : runF P JR 4 35 [I a] (.lit :: (.b false :: (.b false :: []))) =
 some (I (⟨0, 0, true⟩), [fineP [ivs [a]], (!(fineL [a])) = false, nP2 [.int .i64 a.lo, .int .i64 1073741824], P1 [W (a.lo * 1073741824)], surP [W (rtW a.lo), .int .i64 (rootE (tI (W (a.lo * 1073741824))))], nP2 [.int .i64 a.hi, .int .i64 1073741824], P1 [W (a.hi * 1073741824)], surP [W (rcW a.hi), .int .i64 (rootE (tI (W (a.hi * 1073741824))))], P1 [W (rtW a.lo)], P1 [W (rcW a.hi)], (i64B (tI (W (rtW a.lo)))) = false]) := by kernel_rfl
theorem rt0_leaf (a : Iv) (hf : fineL [a] = true) (h0 : 0 ≤ a.lo) (q1 : i64B (rt (a.lo * 1073741824)) = false) : Gives P 35 #[I a] (I (rootI a)) := by
 have F := rtF hf
 obtain ⟨el, eh⟩ := rtW_ok hf h0
 refine gives_of_run mo (rt0_run a) (ps_cons (ivs_ok (by simp)) (ps_cons (neg_f hf) (ps_cons ⟨F.i1, i64one⟩ (ps_cons (P1_W _) (ps_cons ⟨⟨_, rfl⟩, F.z F.i1 h0⟩ (ps_cons ⟨F.i2, i64one⟩ (ps_cons (P1_W _) (ps_cons ⟨⟨_, rfl⟩, F.z F.i2 (by have := fine_iff.1 (fine1 ▸ hf); omega)⟩ (ps_cons (P1_W _) (ps_cons (P1_W _) (ps_cons (by rw [el]; exact q1) ps_nil))))))))))) ?_
 rw [(show rootI a = told ⟨rt (a.lo * 1073741824), rc (a.hi * 1073741824), false⟩ by unfold rootI; rw [hf, decide_eq_true h0]; rfl)]
 rw [told_not (.inl q1)]
 rfl
theorem rt1_run (a : Iv) : runF P JR 4 35 [I a] (.lit :: (.b false :: (.b true :: (.b false :: [])))) =
 some (I (⟨0, 0, true⟩), [fineP [ivs [a]], (!(fineL [a])) = false, nP2 [.int .i64 a.lo, .int .i64 1073741824], P1 [W (a.lo * 1073741824)], surP [W (rtW a.lo), .int .i64 (rootE (tI (W (a.lo * 1073741824))))], nP2 [.int .i64 a.hi, .int .i64 1073741824], P1 [W (a.hi * 1073741824)], surP [W (rcW a.hi), .int .i64 (rootE (tI (W (a.hi * 1073741824))))], P1 [W (rtW a.lo)], P1 [W (rcW a.hi)], (i64B (tI (W (rtW a.lo)))) = true, (i64B (tI (W (rcW a.hi)))) = false]) := by kernel_rfl
theorem rt1_leaf (a : Iv) (hf : fineL [a] = true) (h0 : 0 ≤ a.lo) (q1 : i64B (rt (a.lo * 1073741824)) = true) (q2 : i64B (rc (a.hi * 1073741824)) = false) : Gives P 35 #[I a] (I (rootI a)) := by
 have F := rtF hf
 obtain ⟨el, eh⟩ := rtW_ok hf h0
 refine gives_of_run mo (rt1_run a) (ps_cons (ivs_ok (by simp)) (ps_cons (neg_f hf) (ps_cons ⟨F.i1, i64one⟩ (ps_cons (P1_W _) (ps_cons ⟨⟨_, rfl⟩, F.z F.i1 h0⟩ (ps_cons ⟨F.i2, i64one⟩ (ps_cons (P1_W _) (ps_cons ⟨⟨_, rfl⟩, F.z F.i2 (by have := fine_iff.1 (fine1 ▸ hf); omega)⟩ (ps_cons (P1_W _) (ps_cons (P1_W _) (ps_cons (by rw [el]; exact q1) (ps_cons (by rw [eh]; exact q2) ps_nil)))))))))))) ?_
 rw [(show rootI a = told ⟨rt (a.lo * 1073741824), rc (a.hi * 1073741824), false⟩ by unfold rootI; rw [hf, decide_eq_true h0]; rfl)]
 rw [told_not (.inr q2)]
 rfl
theorem rt2_run (a : Iv) : runF P JR 4 35 [I a] (.lit :: (.b false :: (.b true :: (.b true :: (.lit :: (.b true :: [])))))) =
 some (I (⟨0, 0, true⟩), [fineP [ivs [a]], (!(fineL [a])) = false, nP2 [.int .i64 a.lo, .int .i64 1073741824], P1 [W (a.lo * 1073741824)], surP [W (rtW a.lo), .int .i64 (rootE (tI (W (a.lo * 1073741824))))], nP2 [.int .i64 a.hi, .int .i64 1073741824], P1 [W (a.hi * 1073741824)], surP [W (rcW a.hi), .int .i64 (rootE (tI (W (a.hi * 1073741824))))], P1 [W (rtW a.lo)], P1 [W (rcW a.hi)], (i64B (tI (W (rtW a.lo)))) = true, (i64B (tI (W (rcW a.hi)))) = true, fineP [ivs [⟨(i6 (tI (W (rtW a.lo)))), (i6 (tI (W (rcW a.hi)))), false⟩]], (!(fineL [⟨(i6 (tI (W (rtW a.lo)))), (i6 (tI (W (rcW a.hi)))), false⟩])) = true]) := by kernel_rfl
theorem rt2_leaf (a : Iv) (hf : fineL [a] = true) (h0 : 0 ≤ a.lo) (q1 : i64B (rt (a.lo * 1073741824)) = true) (q2 : i64B (rc (a.hi * 1073741824)) = true) (q3 : fineL [⟨rt (a.lo * 1073741824), rc (a.hi * 1073741824), false⟩] = false) : Gives P 35 #[I a] (I (rootI a)) := by
 have F := rtF hf
 obtain ⟨el, eh⟩ := rtW_ok hf h0
 refine gives_of_run mo (rt2_run a) (ps_cons (ivs_ok (by simp)) (ps_cons (neg_f hf) (ps_cons ⟨F.i1, i64one⟩ (ps_cons (P1_W _) (ps_cons ⟨⟨_, rfl⟩, F.z F.i1 h0⟩ (ps_cons ⟨F.i2, i64one⟩ (ps_cons (P1_W _) (ps_cons ⟨⟨_, rfl⟩, F.z F.i2 (by have := fine_iff.1 (fine1 ▸ hf); omega)⟩ (ps_cons (P1_W _) (ps_cons (P1_W _) (ps_cons (by rw [el]; exact q1) (ps_cons (by rw [eh]; exact q2) (ps_cons (ivs_ok (by simp)) (ps_cons (by rw [el, eh, i6_ok q1, i6_ok q2, q3]; rfl) ps_nil)))))))))))))) ?_
 rw [(show rootI a = told ⟨rt (a.lo * 1073741824), rc (a.hi * 1073741824), false⟩ by unfold rootI; rw [hf, decide_eq_true h0]; rfl)]
 rw [told_no (fine1 ▸ q3)]
 rfl
theorem rt3_run (a : Iv) : runF P JR 4 35 [I a] (.lit :: (.b false :: (.b true :: (.b true :: (.lit :: (.b false :: [])))))) =
 some (I (⟨(i6 (tI (W (rtW a.lo)))), (i6 (tI (W (rcW a.hi)))), false⟩), [fineP [ivs [a]], (!(fineL [a])) = false, nP2 [.int .i64 a.lo, .int .i64 1073741824], P1 [W (a.lo * 1073741824)], surP [W (rtW a.lo), .int .i64 (rootE (tI (W (a.lo * 1073741824))))], nP2 [.int .i64 a.hi, .int .i64 1073741824], P1 [W (a.hi * 1073741824)], surP [W (rcW a.hi), .int .i64 (rootE (tI (W (a.hi * 1073741824))))], P1 [W (rtW a.lo)], P1 [W (rcW a.hi)], (i64B (tI (W (rtW a.lo)))) = true, (i64B (tI (W (rcW a.hi)))) = true, fineP [ivs [⟨(i6 (tI (W (rtW a.lo)))), (i6 (tI (W (rcW a.hi)))), false⟩]], (!(fineL [⟨(i6 (tI (W (rtW a.lo)))), (i6 (tI (W (rcW a.hi)))), false⟩])) = false]) := by kernel_rfl
theorem rt3_leaf (a : Iv) (hf : fineL [a] = true) (h0 : 0 ≤ a.lo) (q1 : i64B (rt (a.lo * 1073741824)) = true) (q2 : i64B (rc (a.hi * 1073741824)) = true) (q3 : fineL [⟨rt (a.lo * 1073741824), rc (a.hi * 1073741824), false⟩] = true) : Gives P 35 #[I a] (I (rootI a)) := by
 have F := rtF hf
 obtain ⟨el, eh⟩ := rtW_ok hf h0
 refine gives_of_run mo (rt3_run a) (ps_cons (ivs_ok (by simp)) (ps_cons (neg_f hf) (ps_cons ⟨F.i1, i64one⟩ (ps_cons (P1_W _) (ps_cons ⟨⟨_, rfl⟩, F.z F.i1 h0⟩ (ps_cons ⟨F.i2, i64one⟩ (ps_cons (P1_W _) (ps_cons ⟨⟨_, rfl⟩, F.z F.i2 (by have := fine_iff.1 (fine1 ▸ hf); omega)⟩ (ps_cons (P1_W _) (ps_cons (P1_W _) (ps_cons (by rw [el]; exact q1) (ps_cons (by rw [eh]; exact q2) (ps_cons (ivs_ok (by simp)) (ps_cons (by rw [el, eh, i6_ok q1, i6_ok q2, q3]; rfl) ps_nil)))))))))))))) ?_
 rw [(show rootI a = told ⟨rt (a.lo * 1073741824), rc (a.hi * 1073741824), false⟩ by unfold rootI; rw [hf, decide_eq_true h0]; rfl)]
 rw [told_ok (fine1 ▸ q3), el, eh, i6_ok q1, i6_ok q2]
theorem root_gives (args : List Value) (h : iP1 args) : Gives P 35 args.toArray ((one1 fun a => I (rootI a)) args) := by
 unfold iP1 at h
 split at h
 · obtain ⟨a, rfl⟩ := h
   show Gives P _ #[I a] (I (rootI a))
   cases hf : fineL [a] with
   | false => exact rtF_leaf a hf
   | true =>
    by_cases hn : a.lo < 0
    · exact rtN_leaf a hf hn
    · have h0 : 0 ≤ a.lo := by omega
      cases q1 : i64B (rt (a.lo * 1073741824)) with
       | false => exact rt0_leaf a hf h0 q1
       | true =>
        cases q2 : i64B (rc (a.hi * 1073741824)) with
        | false => exact rt1_leaf a hf h0 q1 q2
        | true =>
         cases q3 : fineL [⟨rt (a.lo * 1073741824), rc (a.hi * 1073741824), false⟩] with
         | false => exact rt2_leaf a hf h0 q1 q2 q3
         | true => exact rt3_leaf a hf h0 q1 q2 q3
 · exact h.elim
noncomputable def cRoot : Ctr P := ⟨35, iP1, one1 fun a => I (rootI a), root_gives⟩
theorem sgF_run (a : Iv) : runF P JN 1 180 [I a] (.lit :: (.b true :: [])) =
 some (.tuple #[.int .i64 0, .bool false], [fineP [ivs [a]], (!(fineL [a])) = true]) := by kernel_rfl
theorem sgF_leaf (a : Iv) (hf : fineL [a] = false) : Gives P 180 #[I a] (.tuple #[.int .i64 (signN a), .bool (signB a)]) := by
 refine gives_of_run mo (sgF_run a) (ps_cons (ivs_ok (by simp)) (ps_cons (neg_t hf) ps_nil)) ?_
 unfold signN signB
 rw [hf]
 rfl
theorem sg1_run (a : Iv) : runF P JN 1 180 [I a] (.lit :: (.b false :: (.b true :: []))) =
 some (.tuple #[.int .i64 1, .bool true], [fineP [ivs [a]], (!(fineL [a])) = false, (decide (a.lo > 0)) = true]) := by kernel_rfl
theorem sg1_leaf (a : Iv) (hf : fineL [a] = true) (q1 : decide (a.lo > 0) = true) : Gives P 180 #[I a] (.tuple #[.int .i64 (signN a), .bool (signB a)]) := by
 refine gives_of_run mo (sg1_run a) (ps_cons (ivs_ok (by simp)) (ps_cons (neg_f hf) (ps_cons q1 ps_nil))) ?_
 unfold signN signB
 rw [hf, q1, if_pos (of_decide_eq_true q1)]
 rfl
theorem sg2_run (a : Iv) : runF P JN 1 180 [I a] (.lit :: (.b false :: (.b false :: (.b true :: [])))) =
 some (.tuple #[.int .i64 (-1), .bool true], [fineP [ivs [a]], (!(fineL [a])) = false, (decide (a.lo > 0)) = false, (decide (a.hi < 0)) = true]) := by kernel_rfl
theorem sg2_leaf (a : Iv) (hf : fineL [a] = true) (q1 : decide (a.lo > 0) = false) (q2 : decide (a.hi < 0) = true) : Gives P 180 #[I a] (.tuple #[.int .i64 (signN a), .bool (signB a)]) := by
 refine gives_of_run mo (sg2_run a) (ps_cons (ivs_ok (by simp)) (ps_cons (neg_f hf) (ps_cons q1 (ps_cons q2 ps_nil)))) ?_
 unfold signN signB
 rw [hf, q1, q2, if_neg (of_decide_eq_false q1), if_pos (of_decide_eq_true q2)]
 rfl
theorem sg3_run (a : Iv) : runF P JN 1 180 [I a] (.lit :: (.b false :: (.b false :: (.b false :: [])))) =
 some (.tuple #[.int .i64 0, .bool (a.hi == a.lo)], [fineP [ivs [a]], (!(fineL [a])) = false, (decide (a.lo > 0)) = false, (decide (a.hi < 0)) = false]) := by kernel_rfl
theorem sg3_leaf (a : Iv) (hf : fineL [a] = true) (q1 : decide (a.lo > 0) = false) (q2 : decide (a.hi < 0) = false) : Gives P 180 #[I a] (.tuple #[.int .i64 (signN a), .bool (signB a)]) := by
 refine gives_of_run mo (sg3_run a) (ps_cons (ivs_ok (by simp)) (ps_cons (neg_f hf) (ps_cons q1 (ps_cons q2 ps_nil)))) ?_
 unfold signN signB
 rw [hf, q1, q2, if_neg (of_decide_eq_false q1), if_neg (of_decide_eq_false q2)]
 rfl
theorem sign_gives (args : List Value) (h : iP1 args) : Gives P 180 args.toArray ((one1 fun a => .tuple #[.int .i64 (signN a), .bool (signB a)]) args) := by
 unfold iP1 at h
 split at h
 · obtain ⟨a, rfl⟩ := h
   show Gives P _ #[I a] (.tuple #[.int .i64 (signN a), .bool (signB a)])
   cases hf : fineL [a] with
   | false => exact sgF_leaf a hf
   | true =>
    cases q1 : decide (a.lo > 0) with
    | true => exact sg1_leaf a hf q1
    | false =>
     cases q2 : decide (a.hi < 0) with
     | true => exact sg2_leaf a hf q1 q2
     | false => exact sg3_leaf a hf q1 q2
 · exact h.elim
noncomputable def cSign : Ctr P := ⟨180, iP1, one1 fun a => .tuple #[.int .i64 (signN a), .bool (signB a)], sign_gives⟩
noncomputable def invC : List (Ctr P) := [cSquare, cRoot, cSign]
end Go.Nv
