/-
 Contracts of package wave. Printed by wvD.py.
-/
import Derived.Test.YtekplphjbngabaaGreatDoorWva
import Derived.Test.YtekplphjbngabaaGreatDoorIvb
set_option maxRecDepth 100000
namespace Go.Wv
open Go Go.RowKit Go.Sx Go.Nm Go.Wd Go.Qt Go.Iv Go.Proofs
def mM (a : Iv) : Int := bif fineL [a] then midm a else 0
def rM (a : Iv) : Int := bif fineL [a] then midr a else 0
theorem ints_mid {a : Iv} (h : fineL [a] = true) : I64 (IntKind.i64.wrap (a.lo + a.hi)) ∧ Qt.iv (IntKind.i64.wrap (a.lo + a.hi)) 1 2 = midm a ∧ IntKind.i64.wrap (a.hi - midm a) = a.hi - midm a ∧ IntKind.i64.wrap (midm a - a.lo) = midm a - a.lo := by
 rw [fine1] at h
 have ra := fine_iff.1 h
 obtain ⟨m1, m2, _⟩ := mid_spec h
 have e : IntKind.i64.wrap (a.lo + a.hi) = a.lo + a.hi := wr (by omega) (by omega)
 rw [e]
 refine ⟨by unfold I64; omega, ?_, wr (by omega) (by omega), wr (by omega) (by omega)⟩
 have hm : nq (a.lo + a.hi) 2 = midm a := rfl
 have hb : i64B (midm a) = true := by unfold i64B; simp only [Bool.and_eq_true, decide_eq_true_eq]; omega
 have hie : ie (a.lo + a.hi) 1 2 = 0 := by unfold ie; rw [Int.mul_one, if_neg (by omega), hm, if_pos hb]
 unfold Qt.iv
 rw [if_pos hie, Int.mul_one, hm]
noncomputable def WM : Env P := ⟨⟨quotC, [cFine]⟩, [], 10, []⟩
theorem md0_run (a : Iv) : runF P WM 1 105 [I a] (.lit :: (.b false :: [])) =
 some (.tuple #[.int .i64 (Qt.iv (IntKind.i64.wrap (a.lo + a.hi)) 1 2), .int .i64 (mx (IntKind.i64.wrap (a.hi - (Qt.iv (IntKind.i64.wrap (a.lo + a.hi)) 1 2))) (IntKind.i64.wrap (Qt.iv (IntKind.i64.wrap (a.lo + a.hi)) 1 2 - a.lo))), .bool true], [fineP [ivs [a]], (!(fineL [a])) = false, intsP [.int .i64 (IntKind.i64.wrap (a.lo + a.hi)), .int .i64 1, .int .i64 2]]) := by kernel_rfl
theorem md0_leaf (a : Iv)  (q0 : (fineL [a]) = true) : Gives P 105 #[I a] (.tuple #[.int .i64 (mM a), .int .i64 (rM a), .bool (fineL [a])]) := by
 have R := md0_run a
 refine gives_of_run mo R (ps_cons (ivs_ok (by simp)) (ps_cons (neg_f q0) (ps_cons ⟨(ints_mid q0).1, by unfold I64; omega, by unfold I64; omega⟩ ps_nil))) ?_
 obtain ⟨h1, h2, h3, h4⟩ := ints_mid q0
 unfold mM rM
 rw [q0, h2, h3, h4]
 rfl
theorem md1_run (a : Iv) : runF P WM 1 105 [I a] (.lit :: (.b true :: [])) =
 some (.tuple #[.int .i64 0, .int .i64 0, .bool false], [fineP [ivs [a]], (!(fineL [a])) = true]) := by kernel_rfl
theorem md1_leaf (a : Iv)  (q0 : (fineL [a]) = false) : Gives P 105 #[I a] (.tuple #[.int .i64 (mM a), .int .i64 (rM a), .bool (fineL [a])]) := by
 have R := md1_run a
 refine gives_of_run mo R (ps_cons (ivs_ok (by simp)) (ps_cons (neg_t q0) ps_nil)) ?_
 unfold mM rM
 rw [q0]
 rfl
theorem md_gives (args : List Value) (h : iP1 args) : Gives P 105 args.toArray ((one1 fun a => .tuple #[.int .i64 (mM a), .int .i64 (rM a), .bool (fineL [a])]) args) := by
 unfold iP1 at h
 split at h
 · obtain ⟨a, rfl⟩ := h
   show Gives P _ #[I a] (.tuple #[.int .i64 (mM a), .int .i64 (rM a), .bool (fineL [a])])
   rcases Bool.eq_false_or_eq_true (fineL [a]) with q0 | q0
   · exact md0_leaf a  q0
   · exact md1_leaf a  q0
 · exact h.elim
noncomputable def cMiddle : Ctr P := ⟨105, iP1, one1 fun a => .tuple #[.int .i64 (mM a), .int .i64 (rM a), .bool (fineL [a])], md_gives⟩
def arP : List Value → Prop
 | [.int .i64 n] => -1152921504606846976 ≤ n ∧ n ≤ 1152921504606846976
 | _ => False
def szW (t : Iv) : Int := mx t.hi (IntKind.i64.wrap (0 - t.lo))
noncomputable def WI : Env P := ⟨⟨ivalC, ivalD⟩, [], 10, []⟩
theorem ar0_run (n : Int) : runF P WI 1 104 [.int .i64 n] [] =
 some (I (makeI (IntKind.i64.wrap (0 - n)) n), [nP2 [.int .i64 (IntKind.i64.wrap (0 - n)), .int .i64 n]]) := by kernel_rfl
theorem ar0_leaf (n : Int) (h1 : -1152921504606846976 ≤ n) (h2 : n ≤ 1152921504606846976)  : Gives P 104 #[.int .i64 n] (I (around n)) := by
 have R := ar0_run n
 refine gives_of_run mo R (ps_cons (by unfold nP2 I64; rw [wr (by omega) (by omega)]; omega) ps_nil) ?_
 show I (makeI (IntKind.i64.wrap (0 - n)) n) = _
 rw [wr (by omega) (by omega), Int.zero_sub]
 rfl
theorem ar_gives (args : List Value) (h : arP args) : Gives P 104 args.toArray ((n1V fun n => I (around n)) args) := by
 unfold arP at h
 split at h
 · rename_i n
   obtain ⟨h1, h2⟩ := h
   show Gives P _ #[.int .i64 n] (I (around n))
   exact ar0_leaf n h1 h2 
 · exact h.elim
noncomputable def cAround : Ctr P := ⟨104, arP, n1V fun n => I (around n), ar_gives⟩
theorem sz0_run (a : Iv) : runF P ⟨⟨[], []⟩, [], 10, []⟩ 1 101 [I a] [] =
 some (.int .i64 (mx a.hi (IntKind.i64.wrap (0 - a.lo))), []) := by kernel_rfl
theorem sz0_leaf (a : Iv)   : Gives P 101 #[I a] (.int .i64 (szW a)) := by
 have R := sz0_run a
 refine gives_of_run mo R ps_nil ?_
 rfl
theorem sz_gives (args : List Value) (h : iP1 args) : Gives P 101 args.toArray ((one1 fun a => .int .i64 (szW a)) args) := by
 unfold iP1 at h
 split at h
 · obtain ⟨a, rfl⟩ := h
   show Gives P _ #[I a] (.int .i64 (szW a))
   exact sz0_leaf a  
 · exact h.elim
noncomputable def cSize : Ctr P := ⟨101, iP1, one1 fun a => .int .i64 (szW a), sz_gives⟩
noncomputable def WJ : Env P := ⟨⟨[cAround] ++ ivalC, ivalD⟩, [], 10, []⟩
theorem on0_run (a : Iv) : runF P WJ 1 102 [I a] [] =
 some (I (meetI a (around 1073741824)), [arP [.int .i64 1073741824], iP2 [I a, I (around 1073741824)]]) := by kernel_rfl
theorem on0_leaf (a : Iv)   : Gives P 102 #[I a] (I (onI a)) := by
 have R := on0_run a
 refine gives_of_run mo R (ps_cons ⟨by decide, by decide⟩ (ps_cons ⟨⟨_, rfl⟩, _, rfl⟩ ps_nil)) ?_
 rfl
theorem on_gives (args : List Value) (h : iP1 args) : Gives P 102 args.toArray ((one1 fun a => I (onI a)) args) := by
 unfold iP1 at h
 split at h
 · obtain ⟨a, rfl⟩ := h
   show Gives P _ #[I a] (I (onI a))
   exact on0_leaf a  
 · exact h.elim
noncomputable def cOn : Ctr P := ⟨102, iP1, one1 fun a => I (onI a), on_gives⟩
noncomputable def WK : Env P := ⟨⟨[cMiddle, cAround, cSize, cOn] ++ ivalC, ivalD⟩, [], 20, []⟩
def waP : List Value → Prop
 | [x, .bool _] => ∃ a, x = I a
 | _ => False
def waV : List Value → Value
 | [x, .bool c] => I (waveI c (rd x))
 | _ => undef
structure WvF (c : Bool) (a : Iv) : Prop where
 m : mM a = midm a
 r : rM a = midr a
 m64 : I64 (midm a)
 ar : arP [.int .i64 (rM a)]
 sz : szW (tm c (mM a) 13) = size (tm c (mM a) 13) ∧ arP [.int .i64 (szW (tm c (mM a) 13))]
theorem wvF (c : Bool) {a : Iv} (h : holdsI (around 4294967296) a = true) : WvF c a := by
 obtain ⟨fa, b1, b2⟩ := holds_far h
 obtain ⟨m1, m2, m3, m4, m5, m6⟩ := mid_spec fa
 have e1 : mM a = midm a := by unfold mM; rw [fine1, fa]; rfl
 have e2 : rM a = midr a := by unfold rM; rw [fine1, fa]; rfl
 obtain ⟨t, _⟩ := tm_facts c (n := midm a) (by omega) (by omega) 13 (by omega)
 have rt := fine_iff.1 t.f
 have es : szW (tm c (midm a) 13) = size (tm c (midm a) 13) := by unfold szW size; rw [Int.zero_sub, wr (by omega) (by omega)]
 have s1 : size (tm c (midm a) 13) ≤ 1152921504606846976 := mx_le.2 ⟨by omega, by omega⟩
 have s0 : (tm c (midm a) 13).hi ≤ size (tm c (midm a) 13) := (mx_le.1 (Int.le_refl _)).1
 refine ⟨e1, e2, by unfold I64; omega, ?_, ?_⟩
 · rw [e2]; exact ⟨by omega, by omega⟩
 · rw [e1, es]; exact ⟨rfl, by omega, s1⟩
theorem wvt1_run (a : Iv) : runF P WK 3 54 [I a, .bool true] (.lit :: (.b false :: [])) =
 some (I (onI (addI (onI (addI (su true (mM a) 13) (around (szW (tm true (mM a) 13))))) (around (rM a)))), [iP1 [I a], arP [.int .i64 4294967296], iP2 [I (around 4294967296), I a], (!(holdsI (around 4294967296) a)) = false, nP1 [.int .i64 0], nP1 [.int .i64 1], nP1 [.int .i64 (mM a)], nP1 [.int .i64 (mM a)], iP2 [I (pointI (mM a)), I (pointI (mM a))], iP2 [I (pointI 0), I (ofI 1)], iP2 [I (ofI 1), I (qI (mM a))], partP [I (mulI (tm true (mM a) 0) (qI (mM a))), .int .i64 (-1), .int .i64 2], iP2 [I (su true (mM a) 1), I (tm true (mM a) 1)], iP2 [I (tm true (mM a) 1), I (qI (mM a))], partP [I (mulI (tm true (mM a) 1) (qI (mM a))), .int .i64 (-1), .int .i64 12], iP2 [I (su true (mM a) 2), I (tm true (mM a) 2)], iP2 [I (tm true (mM a) 2), I (qI (mM a))], partP [I (mulI (tm true (mM a) 2) (qI (mM a))), .int .i64 (-1), .int .i64 30], iP2 [I (su true (mM a) 3), I (tm true (mM a) 3)], iP2 [I (tm true (mM a) 3), I (qI (mM a))], partP [I (mulI (tm true (mM a) 3) (qI (mM a))), .int .i64 (-1), .int .i64 56], iP2 [I (su true (mM a) 4), I (tm true (mM a) 4)], iP2 [I (tm true (mM a) 4), I (qI (mM a))], partP [I (mulI (tm true (mM a) 4) (qI (mM a))), .int .i64 (-1), .int .i64 90], iP2 [I (su true (mM a) 5), I (tm true (mM a) 5)], iP2 [I (tm true (mM a) 5), I (qI (mM a))], partP [I (mulI (tm true (mM a) 5) (qI (mM a))), .int .i64 (-1), .int .i64 132], iP2 [I (su true (mM a) 6), I (tm true (mM a) 6)], iP2 [I (tm true (mM a) 6), I (qI (mM a))], partP [I (mulI (tm true (mM a) 6) (qI (mM a))), .int .i64 (-1), .int .i64 182], iP2 [I (su true (mM a) 7), I (tm true (mM a) 7)], iP2 [I (tm true (mM a) 7), I (qI (mM a))], partP [I (mulI (tm true (mM a) 7) (qI (mM a))), .int .i64 (-1), .int .i64 240], iP2 [I (su true (mM a) 8), I (tm true (mM a) 8)], iP2 [I (tm true (mM a) 8), I (qI (mM a))], partP [I (mulI (tm true (mM a) 8) (qI (mM a))), .int .i64 (-1), .int .i64 306], iP2 [I (su true (mM a) 9), I (tm true (mM a) 9)], iP2 [I (tm true (mM a) 9), I (qI (mM a))], partP [I (mulI (tm true (mM a) 9) (qI (mM a))), .int .i64 (-1), .int .i64 380], iP2 [I (su true (mM a) 10), I (tm true (mM a) 10)], iP2 [I (tm true (mM a) 10), I (qI (mM a))], partP [I (mulI (tm true (mM a) 10) (qI (mM a))), .int .i64 (-1), .int .i64 462], iP2 [I (su true (mM a) 11), I (tm true (mM a) 11)], iP2 [I (tm true (mM a) 11), I (qI (mM a))], partP [I (mulI (tm true (mM a) 11) (qI (mM a))), .int .i64 (-1), .int .i64 552], iP2 [I (su true (mM a) 12), I (tm true (mM a) 12)], iP2 [I (tm true (mM a) 12), I (qI (mM a))], partP [I (mulI (tm true (mM a) 12) (qI (mM a))), .int .i64 (-1), .int .i64 650], iP1 [I (tm true (mM a) 13)], arP [.int .i64 (szW (tm true (mM a) 13))], iP2 [I (su true (mM a) 13), I (around (szW (tm true (mM a) 13)))], iP2 [I (tm true (mM a) 13), I (qI (mM a))], partP [I (mulI (tm true (mM a) 13) (qI (mM a))), .int .i64 (-1), .int .i64 756], iP1 [I (addI (su true (mM a) 13) (around (szW (tm true (mM a) 13))))], arP [.int .i64 (rM a)], iP2 [I (onI (addI (su true (mM a) 13) (around (szW (tm true (mM a) 13))))), I (around (rM a))], iP1 [I (addI (onI (addI (su true (mM a) 13) (around (szW (tm true (mM a) 13))))) (around (rM a)))]]) := by kernel_rfl
theorem wvt1_leaf (a : Iv) (hq : holdsI (around 4294967296) a = true) : Gives P 54 #[I a, .bool true] (I (waveI true a)) := by
 have F := wvF true hq
 refine gives_of_run mo (wvt1_run a) (ps_cons ⟨_, rfl⟩ (ps_cons ⟨by decide, by decide⟩ (ps_cons ⟨⟨_, rfl⟩, _, rfl⟩ (ps_cons (neg_f hq) (ps_cons (by unfold nP1 I64; omega) (ps_cons (by unfold nP1 I64; omega) (ps_cons (by rw [F.m]; exact F.m64) (ps_cons (by rw [F.m]; exact F.m64) (ps_cons ⟨⟨_, rfl⟩, _, rfl⟩ (ps_cons ⟨⟨_, rfl⟩, _, rfl⟩ (ps_cons ⟨⟨_, rfl⟩, _, rfl⟩ (ps_cons ⟨⟨_, rfl⟩, by unfold I64; omega, by unfold I64; omega⟩ (ps_cons ⟨⟨_, rfl⟩, _, rfl⟩ (ps_cons ⟨⟨_, rfl⟩, _, rfl⟩ (ps_cons ⟨⟨_, rfl⟩, by unfold I64; omega, by unfold I64; omega⟩ (ps_cons ⟨⟨_, rfl⟩, _, rfl⟩ (ps_cons ⟨⟨_, rfl⟩, _, rfl⟩ (ps_cons ⟨⟨_, rfl⟩, by unfold I64; omega, by unfold I64; omega⟩ (ps_cons ⟨⟨_, rfl⟩, _, rfl⟩ (ps_cons ⟨⟨_, rfl⟩, _, rfl⟩ (ps_cons ⟨⟨_, rfl⟩, by unfold I64; omega, by unfold I64; omega⟩ (ps_cons ⟨⟨_, rfl⟩, _, rfl⟩ (ps_cons ⟨⟨_, rfl⟩, _, rfl⟩ (ps_cons ⟨⟨_, rfl⟩, by unfold I64; omega, by unfold I64; omega⟩ (ps_cons ⟨⟨_, rfl⟩, _, rfl⟩ (ps_cons ⟨⟨_, rfl⟩, _, rfl⟩ (ps_cons ⟨⟨_, rfl⟩, by unfold I64; omega, by unfold I64; omega⟩ (ps_cons ⟨⟨_, rfl⟩, _, rfl⟩ (ps_cons ⟨⟨_, rfl⟩, _, rfl⟩ (ps_cons ⟨⟨_, rfl⟩, by unfold I64; omega, by unfold I64; omega⟩ (ps_cons ⟨⟨_, rfl⟩, _, rfl⟩ (ps_cons ⟨⟨_, rfl⟩, _, rfl⟩ (ps_cons ⟨⟨_, rfl⟩, by unfold I64; omega, by unfold I64; omega⟩ (ps_cons ⟨⟨_, rfl⟩, _, rfl⟩ (ps_cons ⟨⟨_, rfl⟩, _, rfl⟩ (ps_cons ⟨⟨_, rfl⟩, by unfold I64; omega, by unfold I64; omega⟩ (ps_cons ⟨⟨_, rfl⟩, _, rfl⟩ (ps_cons ⟨⟨_, rfl⟩, _, rfl⟩ (ps_cons ⟨⟨_, rfl⟩, by unfold I64; omega, by unfold I64; omega⟩ (ps_cons ⟨⟨_, rfl⟩, _, rfl⟩ (ps_cons ⟨⟨_, rfl⟩, _, rfl⟩ (ps_cons ⟨⟨_, rfl⟩, by unfold I64; omega, by unfold I64; omega⟩ (ps_cons ⟨⟨_, rfl⟩, _, rfl⟩ (ps_cons ⟨⟨_, rfl⟩, _, rfl⟩ (ps_cons ⟨⟨_, rfl⟩, by unfold I64; omega, by unfold I64; omega⟩ (ps_cons ⟨⟨_, rfl⟩, _, rfl⟩ (ps_cons ⟨⟨_, rfl⟩, _, rfl⟩ (ps_cons ⟨⟨_, rfl⟩, by unfold I64; omega, by unfold I64; omega⟩ (ps_cons ⟨_, rfl⟩ (ps_cons F.sz.2 (ps_cons ⟨⟨_, rfl⟩, _, rfl⟩ (ps_cons ⟨⟨_, rfl⟩, _, rfl⟩ (ps_cons ⟨⟨_, rfl⟩, by unfold I64; omega, by unfold I64; omega⟩ (ps_cons ⟨_, rfl⟩ (ps_cons F.ar (ps_cons ⟨⟨_, rfl⟩, _, rfl⟩ (ps_cons ⟨_, rfl⟩ ps_nil))))))))))))))))))))))))))))))))))))))))))))))))))))))))) ?_
 rw [wave_eq true hq, F.sz.1, F.m, F.r]
 rfl
theorem wvt0_run (a : Iv) : runF P WK 2 54 [I a, .bool true] (.lit :: (.b true :: [])) =
 some (I (⟨0, 0, true⟩), [iP1 [I a], arP [.int .i64 4294967296], iP2 [I (around 4294967296), I a], (!(holdsI (around 4294967296) a)) = true]) := by kernel_rfl
theorem wvt0_leaf (a : Iv) (hq : holdsI (around 4294967296) a = false) : Gives P 54 #[I a, .bool true] (I (waveI true a)) := by
 exact gives_of_run mo (wvt0_run a) (ps_cons ⟨_, rfl⟩ (ps_cons ⟨by decide, by decide⟩ (ps_cons ⟨⟨_, rfl⟩, _, rfl⟩ (ps_cons (neg_t hq) ps_nil)))) (by unfold waveI; rw [hq]; rfl)
theorem wvf1_run (a : Iv) : runF P WK 3 54 [I a, .bool false] (.lit :: (.b false :: [])) =
 some (I (onI (addI (onI (addI (su false (mM a) 13) (around (szW (tm false (mM a) 13))))) (around (rM a)))), [iP1 [I a], arP [.int .i64 4294967296], iP2 [I (around 4294967296), I a], (!(holdsI (around 4294967296) a)) = false, nP1 [.int .i64 0], nP1 [.int .i64 (mM a)], nP1 [.int .i64 (mM a)], nP1 [.int .i64 (mM a)], iP2 [I (pointI (mM a)), I (pointI (mM a))], iP2 [I (pointI 0), I (pointI (mM a))], iP2 [I (pointI (mM a)), I (qI (mM a))], partP [I (mulI (tm false (mM a) 0) (qI (mM a))), .int .i64 (-1), .int .i64 6], iP2 [I (su false (mM a) 1), I (tm false (mM a) 1)], iP2 [I (tm false (mM a) 1), I (qI (mM a))], partP [I (mulI (tm false (mM a) 1) (qI (mM a))), .int .i64 (-1), .int .i64 20], iP2 [I (su false (mM a) 2), I (tm false (mM a) 2)], iP2 [I (tm false (mM a) 2), I (qI (mM a))], partP [I (mulI (tm false (mM a) 2) (qI (mM a))), .int .i64 (-1), .int .i64 42], iP2 [I (su false (mM a) 3), I (tm false (mM a) 3)], iP2 [I (tm false (mM a) 3), I (qI (mM a))], partP [I (mulI (tm false (mM a) 3) (qI (mM a))), .int .i64 (-1), .int .i64 72], iP2 [I (su false (mM a) 4), I (tm false (mM a) 4)], iP2 [I (tm false (mM a) 4), I (qI (mM a))], partP [I (mulI (tm false (mM a) 4) (qI (mM a))), .int .i64 (-1), .int .i64 110], iP2 [I (su false (mM a) 5), I (tm false (mM a) 5)], iP2 [I (tm false (mM a) 5), I (qI (mM a))], partP [I (mulI (tm false (mM a) 5) (qI (mM a))), .int .i64 (-1), .int .i64 156], iP2 [I (su false (mM a) 6), I (tm false (mM a) 6)], iP2 [I (tm false (mM a) 6), I (qI (mM a))], partP [I (mulI (tm false (mM a) 6) (qI (mM a))), .int .i64 (-1), .int .i64 210], iP2 [I (su false (mM a) 7), I (tm false (mM a) 7)], iP2 [I (tm false (mM a) 7), I (qI (mM a))], partP [I (mulI (tm false (mM a) 7) (qI (mM a))), .int .i64 (-1), .int .i64 272], iP2 [I (su false (mM a) 8), I (tm false (mM a) 8)], iP2 [I (tm false (mM a) 8), I (qI (mM a))], partP [I (mulI (tm false (mM a) 8) (qI (mM a))), .int .i64 (-1), .int .i64 342], iP2 [I (su false (mM a) 9), I (tm false (mM a) 9)], iP2 [I (tm false (mM a) 9), I (qI (mM a))], partP [I (mulI (tm false (mM a) 9) (qI (mM a))), .int .i64 (-1), .int .i64 420], iP2 [I (su false (mM a) 10), I (tm false (mM a) 10)], iP2 [I (tm false (mM a) 10), I (qI (mM a))], partP [I (mulI (tm false (mM a) 10) (qI (mM a))), .int .i64 (-1), .int .i64 506], iP2 [I (su false (mM a) 11), I (tm false (mM a) 11)], iP2 [I (tm false (mM a) 11), I (qI (mM a))], partP [I (mulI (tm false (mM a) 11) (qI (mM a))), .int .i64 (-1), .int .i64 600], iP2 [I (su false (mM a) 12), I (tm false (mM a) 12)], iP2 [I (tm false (mM a) 12), I (qI (mM a))], partP [I (mulI (tm false (mM a) 12) (qI (mM a))), .int .i64 (-1), .int .i64 702], iP1 [I (tm false (mM a) 13)], arP [.int .i64 (szW (tm false (mM a) 13))], iP2 [I (su false (mM a) 13), I (around (szW (tm false (mM a) 13)))], iP2 [I (tm false (mM a) 13), I (qI (mM a))], partP [I (mulI (tm false (mM a) 13) (qI (mM a))), .int .i64 (-1), .int .i64 812], iP1 [I (addI (su false (mM a) 13) (around (szW (tm false (mM a) 13))))], arP [.int .i64 (rM a)], iP2 [I (onI (addI (su false (mM a) 13) (around (szW (tm false (mM a) 13))))), I (around (rM a))], iP1 [I (addI (onI (addI (su false (mM a) 13) (around (szW (tm false (mM a) 13))))) (around (rM a)))]]) := by kernel_rfl
theorem wvf1_leaf (a : Iv) (hq : holdsI (around 4294967296) a = true) : Gives P 54 #[I a, .bool false] (I (waveI false a)) := by
 have F := wvF false hq
 refine gives_of_run mo (wvf1_run a) (ps_cons ⟨_, rfl⟩ (ps_cons ⟨by decide, by decide⟩ (ps_cons ⟨⟨_, rfl⟩, _, rfl⟩ (ps_cons (neg_f hq) (ps_cons (by unfold nP1 I64; omega) (ps_cons (by rw [F.m]; exact F.m64) (ps_cons (by rw [F.m]; exact F.m64) (ps_cons (by rw [F.m]; exact F.m64) (ps_cons ⟨⟨_, rfl⟩, _, rfl⟩ (ps_cons ⟨⟨_, rfl⟩, _, rfl⟩ (ps_cons ⟨⟨_, rfl⟩, _, rfl⟩ (ps_cons ⟨⟨_, rfl⟩, by unfold I64; omega, by unfold I64; omega⟩ (ps_cons ⟨⟨_, rfl⟩, _, rfl⟩ (ps_cons ⟨⟨_, rfl⟩, _, rfl⟩ (ps_cons ⟨⟨_, rfl⟩, by unfold I64; omega, by unfold I64; omega⟩ (ps_cons ⟨⟨_, rfl⟩, _, rfl⟩ (ps_cons ⟨⟨_, rfl⟩, _, rfl⟩ (ps_cons ⟨⟨_, rfl⟩, by unfold I64; omega, by unfold I64; omega⟩ (ps_cons ⟨⟨_, rfl⟩, _, rfl⟩ (ps_cons ⟨⟨_, rfl⟩, _, rfl⟩ (ps_cons ⟨⟨_, rfl⟩, by unfold I64; omega, by unfold I64; omega⟩ (ps_cons ⟨⟨_, rfl⟩, _, rfl⟩ (ps_cons ⟨⟨_, rfl⟩, _, rfl⟩ (ps_cons ⟨⟨_, rfl⟩, by unfold I64; omega, by unfold I64; omega⟩ (ps_cons ⟨⟨_, rfl⟩, _, rfl⟩ (ps_cons ⟨⟨_, rfl⟩, _, rfl⟩ (ps_cons ⟨⟨_, rfl⟩, by unfold I64; omega, by unfold I64; omega⟩ (ps_cons ⟨⟨_, rfl⟩, _, rfl⟩ (ps_cons ⟨⟨_, rfl⟩, _, rfl⟩ (ps_cons ⟨⟨_, rfl⟩, by unfold I64; omega, by unfold I64; omega⟩ (ps_cons ⟨⟨_, rfl⟩, _, rfl⟩ (ps_cons ⟨⟨_, rfl⟩, _, rfl⟩ (ps_cons ⟨⟨_, rfl⟩, by unfold I64; omega, by unfold I64; omega⟩ (ps_cons ⟨⟨_, rfl⟩, _, rfl⟩ (ps_cons ⟨⟨_, rfl⟩, _, rfl⟩ (ps_cons ⟨⟨_, rfl⟩, by unfold I64; omega, by unfold I64; omega⟩ (ps_cons ⟨⟨_, rfl⟩, _, rfl⟩ (ps_cons ⟨⟨_, rfl⟩, _, rfl⟩ (ps_cons ⟨⟨_, rfl⟩, by unfold I64; omega, by unfold I64; omega⟩ (ps_cons ⟨⟨_, rfl⟩, _, rfl⟩ (ps_cons ⟨⟨_, rfl⟩, _, rfl⟩ (ps_cons ⟨⟨_, rfl⟩, by unfold I64; omega, by unfold I64; omega⟩ (ps_cons ⟨⟨_, rfl⟩, _, rfl⟩ (ps_cons ⟨⟨_, rfl⟩, _, rfl⟩ (ps_cons ⟨⟨_, rfl⟩, by unfold I64; omega, by unfold I64; omega⟩ (ps_cons ⟨⟨_, rfl⟩, _, rfl⟩ (ps_cons ⟨⟨_, rfl⟩, _, rfl⟩ (ps_cons ⟨⟨_, rfl⟩, by unfold I64; omega, by unfold I64; omega⟩ (ps_cons ⟨_, rfl⟩ (ps_cons F.sz.2 (ps_cons ⟨⟨_, rfl⟩, _, rfl⟩ (ps_cons ⟨⟨_, rfl⟩, _, rfl⟩ (ps_cons ⟨⟨_, rfl⟩, by unfold I64; omega, by unfold I64; omega⟩ (ps_cons ⟨_, rfl⟩ (ps_cons F.ar (ps_cons ⟨⟨_, rfl⟩, _, rfl⟩ (ps_cons ⟨_, rfl⟩ ps_nil))))))))))))))))))))))))))))))))))))))))))))))))))))))))) ?_
 rw [wave_eq false hq, F.sz.1, F.m, F.r]
 rfl
theorem wvf0_run (a : Iv) : runF P WK 2 54 [I a, .bool false] (.lit :: (.b true :: [])) =
 some (I (⟨0, 0, true⟩), [iP1 [I a], arP [.int .i64 4294967296], iP2 [I (around 4294967296), I a], (!(holdsI (around 4294967296) a)) = true]) := by kernel_rfl
theorem wvf0_leaf (a : Iv) (hq : holdsI (around 4294967296) a = false) : Gives P 54 #[I a, .bool false] (I (waveI false a)) := by
 exact gives_of_run mo (wvf0_run a) (ps_cons ⟨_, rfl⟩ (ps_cons ⟨by decide, by decide⟩ (ps_cons ⟨⟨_, rfl⟩, _, rfl⟩ (ps_cons (neg_t hq) ps_nil)))) (by unfold waveI; rw [hq]; rfl)
theorem wave_gives (args : List Value) (h : waP args) : Gives P 54 args.toArray (waV args) := by
 unfold waP at h
 split at h
 · rename_i c
   obtain ⟨a, rfl⟩ := h
   show Gives P _ #[I a, .bool c] (I (waveI c a))
   cases c with
   | true =>
    cases hq : holdsI (around 4294967296) a with
    | true => exact wvt1_leaf a hq
    | false => exact wvt0_leaf a hq
   | false =>
    cases hq : holdsI (around 4294967296) a with
    | true => exact wvf1_leaf a hq
    | false => exact wvf0_leaf a hq
 · exact h.elim
noncomputable def cWave : Ctr P := ⟨54, waP, waV, wave_gives⟩
noncomputable def WL : Env P := ⟨⟨[cWave], []⟩, [], 10, []⟩
theorem sin0_run (a : Iv) : runF P WL 1 25 [I a] [] =
 some (I (waveI false a), [waP [I a, .bool false]]) := by kernel_rfl
theorem sin0_leaf (a : Iv)   : Gives P 25 #[I a] (I (waveI false a)) := by
 have R := sin0_run a
 refine gives_of_run mo R (ps_cons ⟨_, rfl⟩ ps_nil) ?_
 rfl
theorem sin_gives (args : List Value) (h : iP1 args) : Gives P 25 args.toArray ((one1 fun a => I (waveI false a)) args) := by
 unfold iP1 at h
 split at h
 · obtain ⟨a, rfl⟩ := h
   show Gives P _ #[I a] (I (waveI false a))
   exact sin0_leaf a  
 · exact h.elim
noncomputable def cSin : Ctr P := ⟨25, iP1, one1 fun a => I (waveI false a), sin_gives⟩
theorem cos0_run (a : Iv) : runF P WL 1 22 [I a] [] =
 some (I (waveI true a), [waP [I a, .bool true]]) := by kernel_rfl
theorem cos0_leaf (a : Iv)   : Gives P 22 #[I a] (I (waveI true a)) := by
 have R := cos0_run a
 refine gives_of_run mo R (ps_cons ⟨_, rfl⟩ ps_nil) ?_
 rfl
theorem cos_gives (args : List Value) (h : iP1 args) : Gives P 22 args.toArray ((one1 fun a => I (waveI true a)) args) := by
 unfold iP1 at h
 split at h
 · obtain ⟨a, rfl⟩ := h
   show Gives P _ #[I a] (I (waveI true a))
   exact cos0_leaf a  
 · exact h.elim
noncomputable def cCos : Ctr P := ⟨22, iP1, one1 fun a => I (waveI true a), cos_gives⟩
noncomputable def WO : Env P := ⟨⟨[cSin, cCos], []⟩, [], 10, []⟩
noncomputable def waveC : List (Ctr P) := [cMiddle, cSin, cCos]
end Go.Wv
