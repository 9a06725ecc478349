/-
  Laws of intervals: wakes, in, held. Printed by ivF.py.
-/
import Derived.Test.YtjfcndiodbaejaaDoorIvE
import Derived.Test.YtjfcndiodbaejaaDoorRef3B
set_option maxRecDepth 100000
namespace Go.Iv
open Go Go.RowKit Go.Sx Go.Nm Go.Wd Go.Qt Go.Proofs

noncomputable def EV : Env P := ⟨⟨ivalC, ivalD⟩, [], 10, []⟩
def wakesP : List Value → Prop
  | [] => True
  | _ => False
def wakesV : List Value → Value := fun _ => .bool true
theorem wakes_run : runF P EV 1 12 [] [] = some (.bool true,
    [nP2 [.int .i64 2147483648, .int .i64 (-1073741824)],
     nP1 [.int .i64 3],
     iP2 [I (makeI 2147483648 (-1073741824)), I (ofI 3)],
     nP1 [.int .i64 1],
     partP [I (pointI 1), .int .i64 1, .int .i64 2],
     nP1 [.int .i64 1152921504606846976],
     nP1 [.int .i64 1],
     iP2 [I (pointI 1152921504606846976), I (pointI 1)],
     fineP [.v (.slice none 0 0)],
     nP1 [.int .i64 1],
     nP1 [.int .i64 4],
     fineP [ivs [ofI 1, ofI 4]],
     nP2 [.int .i64 1073741824, .int .i64 4294967296],
     nP1 [.int .i64 1],
     nP1 [.int .i64 2],
     iP2 [I (ofI 1), I (ofI 2)],
     nP1 [.int .i64 6],
     iP2 [I (mulI (makeI 2147483648 (-1073741824)) (ofI 3)), I (ofI 6)],
     nP1 [.int .i64 7],
     iP2 [I (mulI (makeI 2147483648 (-1073741824)) (ofI 3)), I (ofI 7)],
     iP1 [I (partI (pointI 1) 1 2)],
     iP1 [I (addI (pointI 1152921504606846976) (pointI 1))],
     nP1 [.int .i64 5],
     nP1 [.int .i64 7],
     iP2 [I (ofI 5), I (ofI 7)],
     nP1 [.int .i64 2],
     iP1 [I (ofI 2)],
     fineP [.v (.slice none 0 0)],
     fineP [ivs [addI (pointI 1152921504606846976) (pointI 1)]]]) := by kernel_rfl
theorem wakes_gives (args : List Value) (h : wakesP args) : Gives P 12 args.toArray (wakesV args) := by
  unfold wakesP at h
  split at h
  · exact gives_of_run mo wakes_run (ps_cons (by unfold nP2 I64; omega) (ps_cons (by unfold nP1 I64; omega) (ps_cons ⟨⟨_, rfl⟩, _, rfl⟩ (ps_cons (by unfold nP1 I64; omega) (ps_cons ⟨⟨_, rfl⟩, by unfold I64; omega, by unfold I64; omega⟩ (ps_cons (by unfold nP1 I64; omega) (ps_cons (by unfold nP1 I64; omega) (ps_cons ⟨⟨_, rfl⟩, _, rfl⟩ (ps_cons rfl (ps_cons (by unfold nP1 I64; omega) (ps_cons (by unfold nP1 I64; omega) (ps_cons (ivs_ok (by simp)) (ps_cons (by unfold nP2 I64; omega) (ps_cons (by unfold nP1 I64; omega) (ps_cons (by unfold nP1 I64; omega) (ps_cons ⟨⟨_, rfl⟩, _, rfl⟩ (ps_cons (by unfold nP1 I64; omega) (ps_cons ⟨⟨_, rfl⟩, _, rfl⟩ (ps_cons (by unfold nP1 I64; omega) (ps_cons ⟨⟨_, rfl⟩, _, rfl⟩ (ps_cons ⟨_, rfl⟩ (ps_cons ⟨_, rfl⟩ (ps_cons (by unfold nP1 I64; omega) (ps_cons (by unfold nP1 I64; omega) (ps_cons ⟨⟨_, rfl⟩, _, rfl⟩ (ps_cons (by unfold nP1 I64; omega) (ps_cons ⟨_, rfl⟩ (ps_cons rfl (ps_cons (ivs_ok (by simp)) ps_nil))))))))))))))))))))))))))))) rfl
  · exact h.elim
noncomputable def cWakes : Ctr P := ⟨12, wakesP, wakesV, wakes_gives⟩

/-! ### in -/
def inV (a : Iv) (n : Int) : Int := a.lo + n % (a.hi - a.lo + 1)
def inP : List Value → Prop
  | [x, .int .i64 n] => (∃ a, x = I a ∧ fine a = true) ∧ I64 n
  | _ => False
def inVal : List Value → Value
  | [x, .int _ n] => .int .i64 (inV (rd x) n)
  | _ => undef
theorem in_math {n w : Int} (hw : 1 ≤ w) (hw2 : w ≤ 2305843009213693953) : IntKind.i64.wrap (n.tmod w + w) = n.tmod w + w ∧ (n.tmod w + w).tmod w = n % w := by
  have h1 := Int.tmod_lt_of_pos n (show 0 < w by omega)
  have h2 : -w < n.tmod w := by
    have := Int.lt_tmod_of_pos n (show 0 < w by omega)
    omega
  refine ⟨wr (by omega) (by omega), ?_⟩
  rw [Int.tmod_eq_emod_of_nonneg (by omega), Int.add_emod_right]
  have e := Int.mul_tdiv_add_tmod n w
  conv => rhs; rw [← e]
  rw [Int.add_comm, Int.add_mul_emod_self_left]
theorem in0_run (a : Iv) (n : Int) : runF P V0 1 13 [I a, .int .i64 n] [] =
  some (.int .i64 (IntKind.i64.wrap (a.lo + ((IntKind.i64.wrap (n.tmod (IntKind.i64.wrap (IntKind.i64.wrap (a.hi - a.lo) + 1)) + (IntKind.i64.wrap (IntKind.i64.wrap (a.hi - a.lo) + 1)))).tmod (IntKind.i64.wrap (IntKind.i64.wrap (a.hi - a.lo) + 1))))),
    [IntKind.i64.wrap (IntKind.i64.wrap (a.hi - a.lo) + 1) ≠ 0,
     IntKind.i64.wrap (IntKind.i64.wrap (a.hi - a.lo) + 1) ≠ 0]) := by kernel_rfl
theorem in0_leaf (a : Iv) (n : Int) (hf : fine a = true) : Gives P 13 #[I a, .int .i64 n] (.int .i64 (inV a n)) := by
  obtain ⟨_, h1, h2, h3⟩ := fine_iff.1 hf
  have w1 : IntKind.i64.wrap (a.hi - a.lo) = a.hi - a.lo := wr (by omega) (by omega)
  have w2 : IntKind.i64.wrap (a.hi - a.lo + 1) = a.hi - a.lo + 1 := wr (by omega) (by omega)
  have w3 := in_math (n := n) (w := a.hi - a.lo + 1) (by omega) (by omega)
  have r1 := Int.emod_nonneg n (show a.hi - a.lo + 1 ≠ 0 by omega)
  have r2 := Int.emod_lt_of_pos n (show 0 < a.hi - a.lo + 1 by omega)
  have w4 : IntKind.i64.wrap (a.lo + n % (a.hi - a.lo + 1)) = inV a n := wr (by omega) (by omega)
  have R := in0_run a n
  refine gives_of_run mo R (ps_cons (by rw [w1, w2]; omega) (ps_cons (by rw [w1, w2]; omega) ps_nil)) ?_
  rw [w1, w2, w3.1, w3.2, w4]
theorem in_gives (args : List Value) (h : inP args) : Gives P 13 args.toArray (inVal args) := by
  unfold inP at h
  split at h
  · rename_i n
    obtain ⟨⟨a, rfl, hf⟩, _⟩ := h
    exact in0_leaf a n hf
  · exact h.elim
noncomputable def cIn : Ctr P := ⟨13, inP, inVal, in_gives⟩
theorem in_in {a : Iv} (n : Int) (h : fine a = true) : a.lo ≤ inV a n ∧ inV a n ≤ a.hi := by
  obtain ⟨_, h1, h2, h3⟩ := fine_iff.1 h
  have r1 := Int.emod_nonneg n (show a.hi - a.lo + 1 ≠ 0 by omega)
  have r2 := Int.emod_lt_of_pos n (show 0 < a.hi - a.lo + 1 by omega)
  unfold inV
  omega

/-! ### held -/
def heldB (a : Iv) (x n d : Int) : Bool := (qe (x * n) d == 0) && (i64B (qv fq (x * n) d) && (i64B (qv cq (x * n) d) && (decide (a.lo ≤ byLo x n d) && decide (byHi x n d ≤ a.hi))))
def heldP : List Value → Prop
  | [y, .int .i64 x, .int .i64 n, .int .i64 d] => (∃ a, y = I a) ∧ I64 x ∧ I64 n ∧ I64 d
  | _ => False
def heldV : List Value → Value
  | [y, .int _ x, .int _ n, .int _ d] => .bool (heldB (rd y) x n d)
  | _ => undef
noncomputable def EH : Env P := ⟨⟨Rd.refC ++ R3.ref3C, []⟩, [], 10, []⟩
theorem held0_run (a : Iv) (x n d : Int) : runF P EH 1 19 [I a, .int .i64 x, .int .i64 n, .int .i64 d] (.b false :: []) =
  some (.bool false,
    [ofP [.int .i64 x],
     ofP [.int .i64 n],
     P2 [W x, W n],
     ofP [.int .i64 d],
     P2 [W (tI (W x) * tI (W n)), W d],
     ofP [.int .i64 d],
     P2 [W (tI (W x) * tI (W n)), W d],
     P1 [W (qv fq (tI (W (tI (W x) * tI (W n)))) (tI (W d)))],
     P1 [W (qv cq (tI (W (tI (W x) * tI (W n)))) (tI (W d)))],
     (qe (tI (W (tI (W x) * tI (W n)))) (tI (W d)) == 0) = false]) := by kernel_rfl
theorem held0_leaf (a : Iv) (x n d : Int) (hx : I64 x) (hn : I64 n) (hd : I64 d) (q0 : (qe (x * n) d == 0) = false) : Gives P 19 #[I a, .int .i64 x, .int .i64 n, .int .i64 d] (.bool (heldB a x n d)) := by
  have e0 : tI (W x) = x := tI_in (i64_in hx)
  have e1 : tI (W n) = n := tI_in (i64_in hn)
  have e2 : tI (W (x * n)) = x * n := tI_in (inR_of (smmul hx hn))
  have e3 : tI (W d) = d := tI_in (i64_in hd)
  have R := held0_run a x n d
  rw [e0, e1, e2, e3] at R
  refine gives_of_run mo R (ps_cons hx (ps_cons hn (ps_cons (P2_W _ _) (ps_cons hd (ps_cons (P2_W _ _) (ps_cons hd (ps_cons (P2_W _ _) (ps_cons (P1_W _) (ps_cons (P1_W _) (ps_cons q0 ps_nil)))))))))) ?_
  have eb : heldB a x n d = false := by
    unfold heldB
    rw [q0]
    rfl
  rw [eb]
  all_goals rfl
theorem held1_run (a : Iv) (x n d : Int) : runF P EH 1 19 [I a, .int .i64 x, .int .i64 n, .int .i64 d] (.b true :: (.b false :: [])) =
  some (.bool false,
    [ofP [.int .i64 x],
     ofP [.int .i64 n],
     P2 [W x, W n],
     ofP [.int .i64 d],
     P2 [W (tI (W x) * tI (W n)), W d],
     ofP [.int .i64 d],
     P2 [W (tI (W x) * tI (W n)), W d],
     P1 [W (qv fq (tI (W (tI (W x) * tI (W n)))) (tI (W d)))],
     P1 [W (qv cq (tI (W (tI (W x) * tI (W n)))) (tI (W d)))],
     (qe (tI (W (tI (W x) * tI (W n)))) (tI (W d)) == 0) = true,
     (i64B (tI (W (qv fq (tI (W (tI (W x) * tI (W n)))) (tI (W d)))))) = false]) := by kernel_rfl
theorem held1_leaf (a : Iv) (x n d : Int) (hx : I64 x) (hn : I64 n) (hd : I64 d) (q0 : (qe (x * n) d == 0) = true) (q1 : i64B (qv fq (x * n) d) = false) : Gives P 19 #[I a, .int .i64 x, .int .i64 n, .int .i64 d] (.bool (heldB a x n d)) := by
  have e0 : tI (W x) = x := tI_in (i64_in hx)
  have e1 : tI (W n) = n := tI_in (i64_in hn)
  have e2 : tI (W (x * n)) = x * n := tI_in (inR_of (smmul hx hn))
  have e3 : tI (W d) = d := tI_in (i64_in hd)
  have e4 : tI (W (qv fq ((x * n)) d)) = qv fq ((x * n)) d := tI_in (qvf_in (smmul hx hn) (sm64 hd))
  have R := held1_run a x n d
  rw [e0, e1, e2, e3, e4] at R
  refine gives_of_run mo R (ps_cons hx (ps_cons hn (ps_cons (P2_W _ _) (ps_cons hd (ps_cons (P2_W _ _) (ps_cons hd (ps_cons (P2_W _ _) (ps_cons (P1_W _) (ps_cons (P1_W _) (ps_cons q0 (ps_cons q1 ps_nil))))))))))) ?_
  have eb : heldB a x n d = false := by
    unfold heldB
    rw [q0, q1]
    rfl
  rw [eb]
  all_goals rfl
theorem held2_run (a : Iv) (x n d : Int) : runF P EH 1 19 [I a, .int .i64 x, .int .i64 n, .int .i64 d] (.b true :: (.b true :: (.b false :: []))) =
  some (.bool false,
    [ofP [.int .i64 x],
     ofP [.int .i64 n],
     P2 [W x, W n],
     ofP [.int .i64 d],
     P2 [W (tI (W x) * tI (W n)), W d],
     ofP [.int .i64 d],
     P2 [W (tI (W x) * tI (W n)), W d],
     P1 [W (qv fq (tI (W (tI (W x) * tI (W n)))) (tI (W d)))],
     P1 [W (qv cq (tI (W (tI (W x) * tI (W n)))) (tI (W d)))],
     (qe (tI (W (tI (W x) * tI (W n)))) (tI (W d)) == 0) = true,
     (i64B (tI (W (qv fq (tI (W (tI (W x) * tI (W n)))) (tI (W d)))))) = true,
     (i64B (tI (W (qv cq (tI (W (tI (W x) * tI (W n)))) (tI (W d)))))) = false]) := by kernel_rfl
theorem held2_leaf (a : Iv) (x n d : Int) (hx : I64 x) (hn : I64 n) (hd : I64 d) (q0 : (qe (x * n) d == 0) = true) (q1 : i64B (qv fq (x * n) d) = true) (q2 : i64B (qv cq (x * n) d) = false) : Gives P 19 #[I a, .int .i64 x, .int .i64 n, .int .i64 d] (.bool (heldB a x n d)) := by
  have e0 : tI (W x) = x := tI_in (i64_in hx)
  have e1 : tI (W n) = n := tI_in (i64_in hn)
  have e2 : tI (W (x * n)) = x * n := tI_in (inR_of (smmul hx hn))
  have e3 : tI (W d) = d := tI_in (i64_in hd)
  have e4 : tI (W (qv fq ((x * n)) d)) = qv fq ((x * n)) d := tI_in (qvf_in (smmul hx hn) (sm64 hd))
  have e5 : tI (W (qv cq ((x * n)) d)) = qv cq ((x * n)) d := tI_in (qvc_in (smmul hx hn) (sm64 hd))
  have R := held2_run a x n d
  rw [e0, e1, e2, e3, e4, e5] at R
  refine gives_of_run mo R (ps_cons hx (ps_cons hn (ps_cons (P2_W _ _) (ps_cons hd (ps_cons (P2_W _ _) (ps_cons hd (ps_cons (P2_W _ _) (ps_cons (P1_W _) (ps_cons (P1_W _) (ps_cons q0 (ps_cons q1 (ps_cons q2 ps_nil)))))))))))) ?_
  have eb : heldB a x n d = false := by
    unfold heldB
    rw [q0, q1, q2]
    rfl
  rw [eb]
  all_goals rfl
theorem held3_run (a : Iv) (x n d : Int) : runF P EH 1 19 [I a, .int .i64 x, .int .i64 n, .int .i64 d] (.b true :: (.b true :: (.b true :: (.b false :: [])))) =
  some (.bool false,
    [ofP [.int .i64 x],
     ofP [.int .i64 n],
     P2 [W x, W n],
     ofP [.int .i64 d],
     P2 [W (tI (W x) * tI (W n)), W d],
     ofP [.int .i64 d],
     P2 [W (tI (W x) * tI (W n)), W d],
     P1 [W (qv fq (tI (W (tI (W x) * tI (W n)))) (tI (W d)))],
     P1 [W (qv cq (tI (W (tI (W x) * tI (W n)))) (tI (W d)))],
     (qe (tI (W (tI (W x) * tI (W n)))) (tI (W d)) == 0) = true,
     (i64B (tI (W (qv fq (tI (W (tI (W x) * tI (W n)))) (tI (W d)))))) = true,
     (i64B (tI (W (qv cq (tI (W (tI (W x) * tI (W n)))) (tI (W d)))))) = true,
     (decide (a.lo ≤ (if i64B (tI (W (qv fq (tI (W (tI (W x) * tI (W n)))) (tI (W d))))) then tI (W (qv fq (tI (W (tI (W x) * tI (W n)))) (tI (W d)))) else 0))) = false]) := by kernel_rfl
theorem held3_leaf (a : Iv) (x n d : Int) (hx : I64 x) (hn : I64 n) (hd : I64 d) (q0 : (qe (x * n) d == 0) = true) (q1 : i64B (qv fq (x * n) d) = true) (q2 : i64B (qv cq (x * n) d) = true) (q3 : decide (a.lo ≤ byLo x n d) = false) : Gives P 19 #[I a, .int .i64 x, .int .i64 n, .int .i64 d] (.bool (heldB a x n d)) := by
  have e0 : tI (W x) = x := tI_in (i64_in hx)
  have e1 : tI (W n) = n := tI_in (i64_in hn)
  have e2 : tI (W (x * n)) = x * n := tI_in (inR_of (smmul hx hn))
  have e3 : tI (W d) = d := tI_in (i64_in hd)
  have e4 : tI (W (qv fq ((x * n)) d)) = qv fq ((x * n)) d := tI_in (qvf_in (smmul hx hn) (sm64 hd))
  have e5 : tI (W (qv cq ((x * n)) d)) = qv cq ((x * n)) d := tI_in (qvc_in (smmul hx hn) (sm64 hd))
  have R := held3_run a x n d
  rw [e0, e1, e2, e3, e4, e5] at R
  refine gives_of_run mo R (ps_cons hx (ps_cons hn (ps_cons (P2_W _ _) (ps_cons hd (ps_cons (P2_W _ _) (ps_cons hd (ps_cons (P2_W _ _) (ps_cons (P1_W _) (ps_cons (P1_W _) (ps_cons q0 (ps_cons q1 (ps_cons q2 (ps_cons q3 ps_nil))))))))))))) ?_
  have eb : heldB a x n d = false := by
    unfold heldB
    rw [q0, q1, q2, q3]
    rfl
  rw [eb]
  all_goals rfl
theorem held4_run (a : Iv) (x n d : Int) : runF P EH 1 19 [I a, .int .i64 x, .int .i64 n, .int .i64 d] (.b true :: (.b true :: (.b true :: (.b true :: [])))) =
  some (.bool (decide ((if i64B (tI (W (qv cq (tI (W (tI (W x) * tI (W n)))) (tI (W d))))) then tI (W (qv cq (tI (W (tI (W x) * tI (W n)))) (tI (W d)))) else 0) ≤ a.hi)),
    [ofP [.int .i64 x],
     ofP [.int .i64 n],
     P2 [W x, W n],
     ofP [.int .i64 d],
     P2 [W (tI (W x) * tI (W n)), W d],
     ofP [.int .i64 d],
     P2 [W (tI (W x) * tI (W n)), W d],
     P1 [W (qv fq (tI (W (tI (W x) * tI (W n)))) (tI (W d)))],
     P1 [W (qv cq (tI (W (tI (W x) * tI (W n)))) (tI (W d)))],
     (qe (tI (W (tI (W x) * tI (W n)))) (tI (W d)) == 0) = true,
     (i64B (tI (W (qv fq (tI (W (tI (W x) * tI (W n)))) (tI (W d)))))) = true,
     (i64B (tI (W (qv cq (tI (W (tI (W x) * tI (W n)))) (tI (W d)))))) = true,
     (decide (a.lo ≤ (if i64B (tI (W (qv fq (tI (W (tI (W x) * tI (W n)))) (tI (W d))))) then tI (W (qv fq (tI (W (tI (W x) * tI (W n)))) (tI (W d)))) else 0))) = true]) := by kernel_rfl
theorem held4_leaf (a : Iv) (x n d : Int) (hx : I64 x) (hn : I64 n) (hd : I64 d) (q0 : (qe (x * n) d == 0) = true) (q1 : i64B (qv fq (x * n) d) = true) (q2 : i64B (qv cq (x * n) d) = true) (q3 : decide (a.lo ≤ byLo x n d) = true) : Gives P 19 #[I a, .int .i64 x, .int .i64 n, .int .i64 d] (.bool (heldB a x n d)) := by
  have e0 : tI (W x) = x := tI_in (i64_in hx)
  have e1 : tI (W n) = n := tI_in (i64_in hn)
  have e2 : tI (W (x * n)) = x * n := tI_in (inR_of (smmul hx hn))
  have e3 : tI (W d) = d := tI_in (i64_in hd)
  have e4 : tI (W (qv fq ((x * n)) d)) = qv fq ((x * n)) d := tI_in (qvf_in (smmul hx hn) (sm64 hd))
  have e5 : tI (W (qv cq ((x * n)) d)) = qv cq ((x * n)) d := tI_in (qvc_in (smmul hx hn) (sm64 hd))
  have R := held4_run a x n d
  rw [e0, e1, e2, e3, e4, e5] at R
  refine gives_of_run mo R (ps_cons hx (ps_cons hn (ps_cons (P2_W _ _) (ps_cons hd (ps_cons (P2_W _ _) (ps_cons hd (ps_cons (P2_W _ _) (ps_cons (P1_W _) (ps_cons (P1_W _) (ps_cons q0 (ps_cons q1 (ps_cons q2 (ps_cons q3 ps_nil))))))))))))) ?_
  have eb : heldB a x n d = decide (byHi x n d ≤ a.hi) := by
    unfold heldB
    rw [q0, q1, q2, q3]
    rfl
  rw [eb]
  all_goals rfl
theorem held_gives (args : List Value) (h : heldP args) : Gives P 19 args.toArray (heldV args) := by
  unfold heldP at h
  split at h
  · rename_i x n d
    obtain ⟨⟨a, rfl⟩, hx, hn, hd⟩ := h
    show Gives P _ #[I a, .int .i64 x, .int .i64 n, .int .i64 d] (.bool (heldB a x n d))
    cases q0 : (qe (x * n) d == 0) with
    | false => exact held0_leaf a x n d hx hn hd q0
    | true =>
    cases q1 : i64B (qv fq (x * n) d) with
    | false => exact held1_leaf a x n d hx hn hd q0 q1
    | true =>
    cases q2 : i64B (qv cq (x * n) d) with
    | false => exact held2_leaf a x n d hx hn hd q0 q1 q2
    | true =>
    cases q3 : decide (a.lo ≤ byLo x n d) with
    | false => exact held3_leaf a x n d hx hn hd q0 q1 q2 q3
    | true =>
    exact held4_leaf a x n d hx hn hd q0 q1 q2 q3
  · exact h.elim
noncomputable def cHeld : Ctr P := ⟨19, heldP, heldV, held_gives⟩
noncomputable def EL : Env P := ⟨⟨cWakes :: cIn :: cHeld :: ivalC, rFine :: ivalD⟩, [], 10, []⟩
end Go.Iv
