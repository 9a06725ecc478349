/-
 Contracts of gyreref07.{Middle, Term, point, wave, Sin, Cos} where they are not bad. Printed by stH.py, rf7.py.
-/
import Derived.Test.YtekplphjbngabaaGreatDoorWvD
import Derived.Test.YtekplphjbngabaaGreatDoorRf5
set_option maxRecDepth 100000
namespace Go.R7
open Go Go.RowKit Go.Sx Go.Nm Go.Wd Go.Qt Go.Iv Go.An Go.Wv Go.Proofs
noncomputable def H0 : Env P := ⟨⟨[R3.cInts], [rFine]⟩, [], 10, []⟩
theorem rm0_run (a : Iv) : runF P H0 1 112 [I a] (.lit :: (.b false :: [])) =
 some (.tuple #[.int .i64 (Qt.iv (IntKind.i64.wrap (a.lo + a.hi)) 1 2), .int .i64 (mx (IntKind.i64.wrap (a.hi - (Qt.iv (IntKind.i64.wrap (a.lo + a.hi)) 1 2))) (IntKind.i64.wrap (Qt.iv (IntKind.i64.wrap (a.lo + a.hi)) 1 2 - a.lo))), .bool true], [fineP [ivs [a]], (!(fineL [a])) = false, intsP [.int .i64 (IntKind.i64.wrap (a.lo + a.hi)), .int .i64 1, .int .i64 2]]) := by kernel_rfl
theorem rm0_leaf (a : Iv)  (q0 : (fineL [a]) = true) : Gives P 112 #[I a] (.tuple #[.int .i64 (mM a), .int .i64 (rM a), .bool (fineL [a])]) := by
 have R := rm0_run a
 refine gives_of_run mo R (ps_cons (ivs_ok (by simp)) (ps_cons (neg_f q0) (ps_cons ⟨(ints_mid q0).1, by unfold I64; omega, by unfold I64; omega⟩ ps_nil))) ?_
 obtain ⟨h1, h2, h3, h4⟩ := ints_mid q0
 unfold mM rM
 rw [q0, h2, h3, h4]
 rfl
theorem rm1_run (a : Iv) : runF P H0 1 112 [I a] (.lit :: (.b true :: [])) =
 some (.tuple #[.int .i64 0, .int .i64 0, .bool false], [fineP [ivs [a]], (!(fineL [a])) = true]) := by kernel_rfl
theorem rm1_leaf (a : Iv)  (q0 : (fineL [a]) = false) : Gives P 112 #[I a] (.tuple #[.int .i64 (mM a), .int .i64 (rM a), .bool (fineL [a])]) := by
 have R := rm1_run a
 refine gives_of_run mo R (ps_cons (ivs_ok (by simp)) (ps_cons (neg_t q0) ps_nil)) ?_
 unfold mM rM
 rw [q0]
 rfl
theorem rm_gives (args : List Value) (h : iP1 args) : Gives P 112 args.toArray ((one1 fun a => .tuple #[.int .i64 (mM a), .int .i64 (rM a), .bool (fineL [a])]) args) := by
 unfold iP1 at h
 split at h
 · obtain ⟨a, rfl⟩ := h
   show Gives P _ #[I a] (.tuple #[.int .i64 (mM a), .int .i64 (rM a), .bool (fineL [a])])
   rcases Bool.eq_false_or_eq_true (fineL [a]) with q0 | q0
   · exact rm0_leaf a  q0
   · exact rm1_leaf a  q0
 · exact h.elim
noncomputable def cMid7 : Ctr P := ⟨112, iP1, one1 fun a => .tuple #[.int .i64 (mM a), .int .i64 (rM a), .bool (fineL [a])], rm_gives⟩
def sv (c : Bool) (n : Int) : Nat → Iv
 | 0 => tm c n 0
 | k + 1 => addI (sv c n k) (tm c n (k + 1))
def z4 (t : Iv) : Int := mx (mx (mx t.lo (IntKind.i64.wrap (0 - t.lo))) t.hi) (IntKind.i64.wrap (0 - t.hi))
def poP : List Value → Prop
 | [.int .i64 n, .bool _] => -4294967296 ≤ n ∧ n ≤ 4294967296
 | _ => False
def poV : List Value → Value
 | [.int _ n, .bool c] => I (onI (ptI c n))
 | _ => undef
theorem zero_add {t : Iv} (h : fine t = true) : addI (pointI 0) t = t := by
 have hp := hd_point (n := 0) (by decide) (by decide)
 have r := fine_iff.1 h
 have e := (add_ok (a := ⟨0, 0, false⟩) (b := t) (by decide) h (by simp only; omega) (by simp only; omega)).1
 rw [hp.1, e]
 cases t with
 | mk l u b =>
  simp only at r
  rw [r.1]
  simp only [Int.zero_add]
theorem su_sv (c : Bool) {n : Int} (h1 : -4294967296 ≤ n) (h2 : n ≤ 4294967296) : ∀ k, su c n (k + 1) = sv c n k
 | 0 => zero_add ((tm_facts c h1 h2 0 (by omega)).1.f)
 | k + 1 => by
  show addI (su c n (k + 1)) (tm c n (k + 1)) = addI (sv c n k) (tm c n (k + 1))
  rw [su_sv c h1 h2 k]
theorem z4_facts {u : Iv} (h : fine u = true) : z4 u = Wv.size u ∧ IntKind.i64.wrap (0 - z4 u) = -Wv.size u ∧ nP2 [.int .i64 (IntKind.i64.wrap (0 - z4 u)), .int .i64 (z4 u)] := by
 have rt := fine_iff.1 h
 have e : z4 u = Wv.size u := by
  have w1 : IntKind.i64.wrap (0 - u.lo) = -u.lo := by rw [Int.zero_sub, wr (by omega) (by omega)]
  have w2 : IntKind.i64.wrap (0 - u.hi) = -u.hi := by rw [Int.zero_sub, wr (by omega) (by omega)]
  unfold z4 Wv.size
  rw [w1, w2]
  unfold mx
  split <;> split <;> split <;> split <;> omega
 have s1 : Wv.size u ≤ 1152921504606846976 := mx_le.2 ⟨by omega, by omega⟩
 have s0 : u.hi ≤ Wv.size u ∧ -u.lo ≤ Wv.size u := mx_le.1 (Int.le_refl _)
 have w : IntKind.i64.wrap (0 - z4 u) = -Wv.size u := by rw [e, Int.zero_sub, wr (by omega) (by omega)]
 exact ⟨e, w, by rw [w, e]; unfold nP2 I64; omega⟩
structure PoF (c : Bool) (n : Int) : Prop where
 e : z4 (tm c n 13) = Wv.size (tm c n 13)
 w : IntKind.i64.wrap (0 - z4 (tm c n 13)) = -Wv.size (tm c n 13)
 p : nP2 [.int .i64 (IntKind.i64.wrap (0 - z4 (tm c n 13))), .int .i64 (z4 (tm c n 13))]
theorem poF (c : Bool) {n : Int} (h1 : -4294967296 ≤ n) (h2 : n ≤ 4294967296) : PoF c n := by
 have f := z4_facts (tm_facts c h1 h2 13 (by omega)).1.f
 exact ⟨f.1, f.2.1, f.2.2⟩
def te7P : List Value → Prop
 | [.int .i64 n, .int .i64 k, .bool _] => -4294967296 ≤ n ∧ n ≤ 4294967296 ∧ 0 ≤ k ∧ k ≤ 13
 | _ => False
def te7V : List Value → Value
 | [.int _ n, .int _ k, .bool c] => I (tm c n k.toNat)
 | _ => undef
noncomputable def HT : Env P := ⟨⟨R5.rf5C, [rFine]⟩, [], 20, []⟩
def teF (c : Bool) (n : Int) : List Prop :=
 ((decide (n < -4294967296)) = false) :: ((decide (n > 4294967296)) = false) :: nP1 [.int .i64 n] :: nP1 [.int .i64 n] :: iP2 [I (pointI n), I (pointI n)] :: nP1 [.int .i64 n] :: (bif c then [nP1 [.int .i64 1]] else [])
def teC (c : Bool) (n : Int) : Nat → List Prop
 | 0 => []
 | j + 1 => teC c n j ++ [iP2 [I (tm c n j), I (qI n)], partP [I (mulI (tm c n j) (qI n)), .int .i64 (-1), .int .i64 (dd c j)]]
theorem t7_run (c : Bool) (n : Int) : ∀ k : Nat, k ≤ 13 → runF P HT 1 163 [.int .i64 n, .int .i64 k, .bool c] (.b false :: (.b false :: [])) = some (I (tm c n k), teF c n ++ teC c n k)
 | 0, _ => by cases c <;> kernel_rfl
 | 1, _ => by cases c <;> kernel_rfl
 | 2, _ => by cases c <;> kernel_rfl
 | 3, _ => by cases c <;> kernel_rfl
 | 4, _ => by cases c <;> kernel_rfl
 | 5, _ => by cases c <;> kernel_rfl
 | 6, _ => by cases c <;> kernel_rfl
 | 7, _ => by cases c <;> kernel_rfl
 | 8, _ => by cases c <;> kernel_rfl
 | 9, _ => by cases c <;> kernel_rfl
 | 10, _ => by cases c <;> kernel_rfl
 | 11, _ => by cases c <;> kernel_rfl
 | 12, _ => by cases c <;> kernel_rfl
 | 13, _ => by cases c <;> kernel_rfl
 | k + 14, h => by omega
theorem teC_ok (c : Bool) (n : Int) : ∀ k : Nat, k ≤ 13 → ∀ p ∈ teC c n k, p
 | 0, _ => ps_nil
 | k + 1, h => ps_app (teC_ok c n k (by omega)) (ps_cons ⟨⟨_, rfl⟩, _, rfl⟩ (ps_cons ⟨⟨_, rfl⟩, by unfold I64; omega, (dd_small c (k := k) (by omega)).1⟩ ps_nil))
theorem t7_gives (args : List Value) (h : te7P args) : Gives P 163 args.toArray (te7V args) := by
 unfold te7P at h
 split at h
 · rename_i n k c
   obtain ⟨h1, h2, h3, h4⟩ := h
   show Gives P _ #[.int .i64 n, .int .i64 k, .bool c] (I (tm c n k.toNat))
   have hk : k = ((k.toNat : Nat) : Int) := by omega
   have R := t7_run c n k.toNat (by omega)
   rw [← hk] at R
   have hn : I64 n := by unfold I64; omega
   refine gives_of_run mo R (ps_app (ps_cons (decide_eq_false (by omega)) (ps_cons (decide_eq_false (by omega)) (ps_cons hn (ps_cons hn (ps_cons ⟨⟨_, rfl⟩, _, rfl⟩ (ps_cons hn ?_)))))) (teC_ok c n k.toNat (by omega))) rfl
   cases c with
   | true => exact ps_cons (by unfold nP1 I64; omega) ps_nil
   | false => exact ps_nil
 · exact h.elim
noncomputable def cTerm7 : Ctr P := ⟨163, te7P, te7V, t7_gives⟩
noncomputable def H1 : Env P := ⟨⟨[cTerm7] ++ R5.rf5C, [rFine]⟩, [], 30, []⟩
def poS (c : Bool) (n : Int) : Nat → List Prop
 | 0 => [te7P [.int .i64 n, .int .i64 0, .bool c]]
 | k + 1 => poS c n k ++ [te7P [.int .i64 n, .int .i64 ((k + 1 : Nat) : Int), .bool c], iP2 [I (sv c n k), I (tm c n (k + 1))]]
theorem poS_ok (c : Bool) {n : Int} (h1 : -4294967296 ≤ n) (h2 : n ≤ 4294967296) : ∀ k : Nat, k ≤ 12 → ∀ p ∈ poS c n k, p
 | 0, _ => ps_cons ⟨h1, h2, by omega, by omega⟩ ps_nil
 | k + 1, h => ps_app (poS_ok c h1 h2 k (by omega)) (ps_cons ⟨h1, h2, by omega, by omega⟩ (ps_cons ⟨⟨_, rfl⟩, _, rfl⟩ ps_nil))
theorem po_run (c : Bool) (n : Int) : runF P H1 1 113 [.int .i64 n, .bool c] [] =
 some (I (meetI (addI (sv c n 12) (makeI (IntKind.i64.wrap (0 - (z4 (tm c n 13)))) (z4 (tm c n 13)))) (makeI (-1073741824) 1073741824)), poS c n 12 ++ [te7P [.int .i64 n, .int .i64 13, .bool c], nP2 [.int .i64 (IntKind.i64.wrap (0 - (z4 (tm c n 13)))), .int .i64 (z4 (tm c n 13))], iP2 [I (sv c n 12), I (makeI (IntKind.i64.wrap (0 - (z4 (tm c n 13)))) (z4 (tm c n 13)))], nP2 [.int .i64 (-1073741824), .int .i64 1073741824], iP2 [I (addI (sv c n 12) (makeI (IntKind.i64.wrap (0 - (z4 (tm c n 13)))) (z4 (tm c n 13)))), I (makeI (-1073741824) 1073741824)]]) := by
 cases c <;> kernel_rfl
theorem po_leaf (c : Bool) (n : Int) (h1 : -4294967296 ≤ n) (h2 : n ≤ 4294967296) : Gives P 113 #[.int .i64 n, .bool c] (I (onI (ptI c n))) := by
 have F := poF c h1 h2
 have e := su_sv c h1 h2 12
 refine gives_of_run mo (po_run c n) (ps_app (poS_ok c h1 h2 12 (by omega)) (ps_cons ⟨h1, h2, by omega, by omega⟩ (ps_cons F.p (ps_cons ⟨⟨_, rfl⟩, _, rfl⟩ (ps_cons (by unfold nP2 I64; omega) (ps_cons ⟨⟨_, rfl⟩, _, rfl⟩ ps_nil)))))) ?_
 unfold onI ptI
 rw [e, F.w, F.e]
 rfl
theorem po_gives (args : List Value) (h : poP args) : Gives P 113 args.toArray (poV args) := by
 unfold poP at h
 split at h
 · rename_i n c
   obtain ⟨h1, h2⟩ := h
   show Gives P _ #[.int .i64 n, .bool c] (I (onI (ptI c n)))
   exact po_leaf c n h1 h2
 · exact h.elim
noncomputable def cPoint7 : Ctr P := ⟨113, poP, poV, po_gives⟩
def wa7P : List Value → Prop
 | [x, .bool _] => ∃ a, x = I a ∧ holdsI (makeI (-4294967296) 4294967296) a = true
 | _ => False
def wa7V : List Value → Value
 | [x, .bool c] => I (waveI c (rd x))
 | _ => undef
noncomputable def H2 : Env P := ⟨⟨[cMid7, cPoint7] ++ R5.rf5C, [rFine]⟩, [], 20, []⟩
theorem re7 {a : Iv} (h : holdsI (makeI (-4294967296) 4294967296) a = true) : mM a = midm a ∧ -4294967296 ≤ mM a ∧ mM a ≤ 4294967296 ∧ IntKind.i64.wrap (0 - rM a) = -midr a ∧ rM a = midr a ∧ nP2 [.int .i64 (IntKind.i64.wrap (0 - rM a)), .int .i64 (rM a)] := by
 have F := wvF true h
 obtain ⟨fa, b1, b2⟩ := holds_far h
 obtain ⟨m1, m2, m3, m4, m5, m6⟩ := mid_spec fa
 have w : IntKind.i64.wrap (0 - rM a) = -midr a := by rw [F.r, Int.zero_sub, wr (by omega) (by omega)]
 exact ⟨F.m, by rw [F.m]; omega, by rw [F.m]; omega, w, F.r, by rw [w, F.r]; unfold nP2 I64; omega⟩
theorem w7t_run (a : Iv) : runF P H2 1 61 [I a, .bool true] (.b false :: []) =
 some (I (meetI (addI (onI (ptI true (mM a))) (makeI (IntKind.i64.wrap (0 - (rM a))) (rM a))) (makeI (-1073741824) 1073741824)), [nP2 [.int .i64 (-4294967296), .int .i64 4294967296], iP2 [I (makeI (-4294967296) 4294967296), I a], (!(holdsI (makeI (-4294967296) 4294967296) a)) = false, iP1 [I a], poP [.int .i64 (mM a), .bool true], nP2 [.int .i64 (IntKind.i64.wrap (0 - (rM a))), .int .i64 (rM a)], iP2 [I (onI (ptI true (mM a))), I (makeI (IntKind.i64.wrap (0 - (rM a))) (rM a))], nP2 [.int .i64 (-1073741824), .int .i64 1073741824], iP2 [I (addI (onI (ptI true (mM a))) (makeI (IntKind.i64.wrap (0 - (rM a))) (rM a))), I (makeI (-1073741824) 1073741824)]]) := by kernel_rfl
theorem w7t_leaf (a : Iv) (hq : holdsI (makeI (-4294967296) 4294967296) a = true) : Gives P 61 #[I a, .bool true] (I (waveI true a)) := by
 have K := re7 hq
 refine gives_of_run mo (w7t_run a) (ps_cons (by unfold nP2 I64; omega) (ps_cons ⟨⟨_, rfl⟩, _, rfl⟩ (ps_cons (neg_f hq) (ps_cons ⟨_, rfl⟩ (ps_cons ⟨K.2.1, K.2.2.1⟩ (ps_cons K.2.2.2.2.2 (ps_cons ⟨⟨_, rfl⟩, _, rfl⟩ (ps_cons (by unfold nP2 I64; omega) (ps_cons ⟨⟨_, rfl⟩, _, rfl⟩ ps_nil))))))))) ?_
 rw [wave_eq true hq, K.2.2.2.1, K.2.2.2.2.1, K.1]
 rfl
theorem w7f_run (a : Iv) : runF P H2 1 61 [I a, .bool false] (.b false :: []) =
 some (I (meetI (addI (onI (ptI false (mM a))) (makeI (IntKind.i64.wrap (0 - (rM a))) (rM a))) (makeI (-1073741824) 1073741824)), [nP2 [.int .i64 (-4294967296), .int .i64 4294967296], iP2 [I (makeI (-4294967296) 4294967296), I a], (!(holdsI (makeI (-4294967296) 4294967296) a)) = false, iP1 [I a], poP [.int .i64 (mM a), .bool false], nP2 [.int .i64 (IntKind.i64.wrap (0 - (rM a))), .int .i64 (rM a)], iP2 [I (onI (ptI false (mM a))), I (makeI (IntKind.i64.wrap (0 - (rM a))) (rM a))], nP2 [.int .i64 (-1073741824), .int .i64 1073741824], iP2 [I (addI (onI (ptI false (mM a))) (makeI (IntKind.i64.wrap (0 - (rM a))) (rM a))), I (makeI (-1073741824) 1073741824)]]) := by kernel_rfl
theorem w7f_leaf (a : Iv) (hq : holdsI (makeI (-4294967296) 4294967296) a = true) : Gives P 61 #[I a, .bool false] (I (waveI false a)) := by
 have K := re7 hq
 refine gives_of_run mo (w7f_run a) (ps_cons (by unfold nP2 I64; omega) (ps_cons ⟨⟨_, rfl⟩, _, rfl⟩ (ps_cons (neg_f hq) (ps_cons ⟨_, rfl⟩ (ps_cons ⟨K.2.1, K.2.2.1⟩ (ps_cons K.2.2.2.2.2 (ps_cons ⟨⟨_, rfl⟩, _, rfl⟩ (ps_cons (by unfold nP2 I64; omega) (ps_cons ⟨⟨_, rfl⟩, _, rfl⟩ ps_nil))))))))) ?_
 rw [wave_eq false hq, K.2.2.2.1, K.2.2.2.2.1, K.1]
 rfl
theorem w7_gives (args : List Value) (h : wa7P args) : Gives P 61 args.toArray (wa7V args) := by
 unfold wa7P at h
 split at h
 · rename_i c
   obtain ⟨a, rfl, hq⟩ := h
   show Gives P _ #[I a, .bool c] (I (waveI c a))
   cases c with
   | true => exact w7t_leaf a hq
   | false => exact w7f_leaf a hq
 · exact h.elim
noncomputable def cWave7 : Ctr P := ⟨61, wa7P, wa7V, w7_gives⟩
noncomputable def H3 : Env P := ⟨⟨[cWave7], []⟩, [], 10, []⟩
def sc7P : List Value → Prop
 | [x] => ∃ a, x = I a ∧ holdsI (makeI (-4294967296) 4294967296) a = true
 | _ => False
theorem sin70_run (a : Iv) : runF P H3 1 32 [I a] [] =
 some (I (waveI false a), [wa7P [I a, .bool false]]) := by kernel_rfl
theorem sin70_leaf (a : Iv) (hq : holdsI (makeI (-4294967296) 4294967296) a = true)  : Gives P 32 #[I a] (I (waveI false a)) := by
 have R := sin70_run a
 refine gives_of_run mo R (ps_cons ⟨_, rfl, hq⟩ ps_nil) ?_
 rfl
theorem sin7_gives (args : List Value) (h : sc7P args) : Gives P 32 args.toArray ((one1 fun a => I (waveI false a)) args) := by
 unfold sc7P at h
 split at h
 · obtain ⟨a, rfl, hq⟩ := h
   show Gives P _ #[I a] (I (waveI false a))
   exact sin70_leaf a hq 
 · exact h.elim
noncomputable def cSin7 : Ctr P := ⟨32, sc7P, one1 fun a => I (waveI false a), sin7_gives⟩
theorem cos70_run (a : Iv) : runF P H3 1 29 [I a] [] =
 some (I (waveI true a), [wa7P [I a, .bool true]]) := by kernel_rfl
theorem cos70_leaf (a : Iv) (hq : holdsI (makeI (-4294967296) 4294967296) a = true)  : Gives P 29 #[I a] (I (waveI true a)) := by
 have R := cos70_run a
 refine gives_of_run mo R (ps_cons ⟨_, rfl, hq⟩ ps_nil) ?_
 rfl
theorem cos7_gives (args : List Value) (h : sc7P args) : Gives P 29 args.toArray ((one1 fun a => I (waveI true a)) args) := by
 unfold sc7P at h
 split at h
 · obtain ⟨a, rfl, hq⟩ := h
   show Gives P _ #[I a] (I (waveI true a))
   exact cos70_leaf a hq 
 · exact h.elim
noncomputable def cCos7 : Ctr P := ⟨29, sc7P, one1 fun a => I (waveI true a), cos7_gives⟩
end Go.R7
