/-
  The laws IvalBad, IvalRing, IvalParts, IvalHolds: each comes to true. Printed by ivG.py.
-/
import Derived.Test.YtjfcndiodbaejaaDoorIvF
import Derived.Test.YtjfcndiodbaejaaDoorIvN
set_option maxRecDepth 100000
namespace Go.Iv
open Go Go.RowKit Go.Sx Go.Nm Go.Wd Go.Qt Go.Proofs

theorem bad1 {a : Iv} (h : fine a = false) : fineL [a] = false := by rw [fine1]; exact h
theorem bad2 {a b : Iv} (h : fine a = false) : fineL [a, b] = false := by
  show (fine a && _) = false
  rw [h]; rfl
theorem bad3 {a b : Iv} (h : fine a = false) : fineL [b, a] = false := by
  show (fine b && fineL [a]) = false
  rw [bad1 h, Bool.and_false]
theorem same (x : Iv) : (!((x.lo == x.lo) && ((x.hi == x.hi) && (x.bad == x.bad)))) = false := by simp
theorem IB0_run (a b : Iv) : runF P EL 1 6 [I a, I b] (.lit :: (.b true :: [])) =
  some (.bool true,
    [fineP [ivs [a]],
     (fineL [a]) = true,
     wakesP []]) := by kernel_rfl
theorem IB0_leaf (a b : Iv) (hf : fineL [a] = true) : Gives P 6 #[I a, I b] (.bool true) := by
  have R := IB0_run a b
  refine gives_of_run mo R (ps_cons (ivs_ok (by simp)) (ps_cons hf (ps_cons trivial ps_nil))) ?_
  rfl
theorem IB1_run (a b : Iv) : runF P EL 1 6 [I a, I b] (.lit :: (.b false :: (.lit :: (.b false :: (.b false :: (.b false :: (.b false :: (.b false :: (.b false :: (.lit :: (.b false :: (.b false :: (.b true :: (.b true :: (.b true :: (.b true :: (.b true :: (.b true :: [])))))))))))))))))) =
  some (.bool true,
    [fineP [ivs [a]],
     (fineL [a]) = false,
     fineP [ivs [a]],
     (fineL [a]) = false,
     iP2 [I a, I b],
     (!(((addI a b).lo == 0) && (((addI a b).hi == 0) && (((addI a b).bad) == true)))) = false,
     iP2 [I b, I a],
     (!(((subI b a).lo == 0) && (((subI b a).hi == 0) && (((subI b a).bad) == true)))) = false,
     iP1 [I a],
     (!(((negI a).lo == 0) && (((negI a).hi == 0) && (((negI a).bad) == true)))) = false,
     iP2 [I b, I a],
     (!(((mulI b a).lo == 0) && (((mulI b a).hi == 0) && (((mulI b a).bad) == true)))) = false,
     partP [I a, .int .i64 1, .int .i64 1],
     (!(((partI a 1 1).lo == 0) && (((partI a 1 1).hi == 0) && (((partI a 1 1).bad) == true)))) = false,
     fineP [ivs [b, a]],
     (!(((hullI [b, a]).lo == 0) && (((hullI [b, a]).hi == 0) && (((hullI [b, a]).bad) == true)))) = false,
     iP2 [I a, I b],
     (!(((meetI a b).lo == 0) && (((meetI a b).hi == 0) && (((meetI a b).bad) == true)))) = false,
     iP2 [I a, I b],
     (!(holdsI a b)) = true,
     iP2 [I b, I a],
     (!(holdsI b a)) = true,
     iP1 [I a],
     (widthI a == -1) = true,
     nP1 [.int .i64 1152921504606846977],
     (((pointI 1152921504606846977).lo == 0) && (((pointI 1152921504606846977).hi == 0) && (((pointI 1152921504606846977).bad) == true))) = true,
     nP2 [.int .i64 0, .int .i64 (-1152921504606846977)],
     (((makeI 0 (-1152921504606846977)).lo == 0) && (((makeI 0 (-1152921504606846977)).hi == 0) && (((makeI 0 (-1152921504606846977)).bad) == true))) = true,
     nP1 [.int .i64 1152921504606846976],
     ((pointI 1152921504606846976).hi == 1152921504606846976) = true,
     wakesP []]) := by kernel_rfl
theorem IB1_leaf (a b : Iv) (ha : fine a = false) : Gives P 6 #[I a, I b] (.bool true) := by
  have h1 := bad1 ha
  have h2 : fineL [a, b] = false := bad2 ha
  have h3 : fineL [b, a] = false := bad3 ha
  have hf := h1
  have e1 : addI a b = bd := by unfold addI; rw [h2]; rfl
  have e2 : subI b a = bd := by unfold subI; rw [h3]; rfl
  have e3 : negI a = bd := by unfold negI; rw [h1]; rfl
  have e4 : mulI b a = bd := by unfold mulI; rw [h3]; rfl
  have e5 : partI a 1 1 = bd := by unfold partI; rw [h1]; rfl
  have e6 : hullI [b, a] = bd := by show (bif fineL [b, a] then _ else bd) = bd; rw [h3]; rfl
  have e7 : meetI a b = bd := by unfold meetI; rw [h2]; rfl
  have e8 : holdsI a b = false := by unfold holdsI; rw [h2]; rfl
  have e9 : holdsI b a = false := by unfold holdsI; rw [h3]; rfl
  have e10 : widthI a = -1 := by unfold widthI; rw [h1]; rfl
  have R := IB1_run a b
  refine gives_of_run mo R (ps_cons (ivs_ok (by simp)) (ps_cons hf (ps_cons (ivs_ok (by simp)) (ps_cons hf (ps_cons ⟨⟨_, rfl⟩, _, rfl⟩ (ps_cons (by rw [e1]; rfl) (ps_cons ⟨⟨_, rfl⟩, _, rfl⟩ (ps_cons (by rw [e2]; rfl) (ps_cons ⟨_, rfl⟩ (ps_cons (by rw [e3]; rfl) (ps_cons ⟨⟨_, rfl⟩, _, rfl⟩ (ps_cons (by rw [e4]; rfl) (ps_cons ⟨⟨_, rfl⟩, by unfold I64; omega, by unfold I64; omega⟩ (ps_cons (by rw [e5]; rfl) (ps_cons (ivs_ok (by simp)) (ps_cons (by rw [e6]; rfl) (ps_cons ⟨⟨_, rfl⟩, _, rfl⟩ (ps_cons (by rw [e7]; rfl) (ps_cons ⟨⟨_, rfl⟩, _, rfl⟩ (ps_cons (neg_t e8) (ps_cons ⟨⟨_, rfl⟩, _, rfl⟩ (ps_cons (neg_t e9) (ps_cons ⟨_, rfl⟩ (ps_cons (by rw [e10]; rfl) (ps_cons (by unfold nP1 I64; omega) (ps_cons (by kernel_rfl) (ps_cons (by unfold nP2 I64; omega) (ps_cons (by kernel_rfl) (ps_cons (by unfold nP1 I64; omega) (ps_cons (by kernel_rfl) (ps_cons trivial ps_nil))))))))))))))))))))))))))))))) ?_
  rfl
theorem IvalBad_all (a b : Iv) : Gives P 6 #[I a, I b] (.bool true) := by
  cases h : fine a with
  | true => exact IB0_leaf a b (fine1.trans h)
  | false => exact IB1_leaf a b h
theorem IR0_run (a b c : Iv) : runF P EL 1 5 [I a, I b, I c] (.lit :: (.b true :: [])) =
  some (.bool true,
    [fineP [ivs [a, b, c]],
     (!(fineL [a, b, c])) = true,
     wakesP []]) := by kernel_rfl
theorem IR0_leaf (a b c : Iv) (hf : fineL [a, b, c] = false) : Gives P 5 #[I a, I b, I c] (.bool true) := by
  have R := IR0_run a b c
  refine gives_of_run mo R (ps_cons (ivs_ok (by simp)) (ps_cons (neg_t hf) (ps_cons trivial ps_nil))) ?_
  rfl
theorem IRtt_run (a b c : Iv) : runF P EL 1 5 [I a, I b, I c] (.lit :: (.b false :: (.b false :: (.b false :: (.b false :: (.b false :: (.b false :: (.b false :: (.b true :: (.lit :: (.b true :: []))))))))))) =
  some (.bool true,
    [fineP [ivs [a, b, c]],
     (!(fineL [a, b, c])) = false,
     iP2 [I a, I b],
     iP2 [I b, I a],
     (!(((addI a b).lo == (addI b a).lo) && (((addI a b).hi == (addI b a).hi) && (((addI a b).bad) == ((addI b a).bad))))) = false,
     iP2 [I a, I b],
     iP2 [I b, I a],
     (!(((mulI a b).lo == (mulI b a).lo) && (((mulI a b).hi == (mulI b a).hi) && (((mulI a b).bad) == ((mulI b a).bad))))) = false,
     nP1 [.int .i64 1],
     iP2 [I (ofI 1), I a],
     (!(((mulI (ofI 1) a).lo == a.lo) && (((mulI (ofI 1) a).hi == a.hi) && (((mulI (ofI 1) a).bad) == a.bad)))) = false,
     nP1 [.int .i64 0],
     iP2 [I (ofI 0), I a],
     nP1 [.int .i64 0],
     (!(((mulI (ofI 0) a).lo == (pointI 0).lo) && (((mulI (ofI 0) a).hi == (pointI 0).hi) && (((mulI (ofI 0) a).bad) == ((pointI 0).bad))))) = false,
     iP1 [I a],
     iP1 [I (negI a)],
     (!(((negI (negI a)).lo == a.lo) && (((negI (negI a)).hi == a.hi) && (((negI (negI a)).bad) == a.bad)))) = false,
     iP2 [I a, I b],
     iP1 [I b],
     iP2 [I a, I (negI b)],
     (!(((subI a b).lo == (addI a (negI b)).lo) && (((subI a b).hi == (addI a (negI b)).hi) && (((subI a b).bad) == ((addI a (negI b)).bad))))) = false,
     iP2 [I a, I b],
     iP2 [I (addI a b), I b],
     iP2 [I b, I c],
     iP2 [I a, I (addI b c)],
     iP2 [I a, I b],
     iP2 [I a, I c],
     iP2 [I (mulI a b), I (mulI a c)],
     ((subI (addI a b) b).bad) = true,
     ((addI (mulI a b) (mulI a c)).bad) = true,
     wakesP []]) := by kernel_rfl
theorem IRtt_leaf (a b c : Iv) (hf : fineL [a, b, c] = true) (s0 : (subI (addI a b) b).bad = true) (r0 : (addI (mulI a b) (mulI a c)).bad = true) : Gives P 5 #[I a, I b, I c] (.bool true) := by
  obtain ⟨fa, fb⟩ : fine a = true ∧ fine b = true := by
    have h : (fine a && (fine b && _)) = true := hf
    simp only [Bool.and_eq_true] at h
    exact ⟨h.1, h.2.1⟩
  have o1 : mulI (ofI 1) a = a := mul_one' fa
  have o0 : mulI (ofI 0) a = pointI 0 := mul_zero' fa
  have R := IRtt_run a b c
  refine gives_of_run mo R (ps_cons (ivs_ok (by simp)) (ps_cons (neg_f hf) (ps_cons ⟨⟨_, rfl⟩, _, rfl⟩ (ps_cons ⟨⟨_, rfl⟩, _, rfl⟩ (ps_cons (by rw [add_comm' a b]; exact same _) (ps_cons ⟨⟨_, rfl⟩, _, rfl⟩ (ps_cons ⟨⟨_, rfl⟩, _, rfl⟩ (ps_cons (by rw [mul_comm' a b]; exact same _) (ps_cons (by unfold nP1 I64; omega) (ps_cons ⟨⟨_, rfl⟩, _, rfl⟩ (ps_cons (by rw [o1]; exact same _) (ps_cons (by unfold nP1 I64; omega) (ps_cons ⟨⟨_, rfl⟩, _, rfl⟩ (ps_cons (by unfold nP1 I64; omega) (ps_cons (by rw [o0]; exact same _) (ps_cons ⟨_, rfl⟩ (ps_cons ⟨_, rfl⟩ (ps_cons (by rw [neg_neg' fa]; exact same _) (ps_cons ⟨⟨_, rfl⟩, _, rfl⟩ (ps_cons ⟨_, rfl⟩ (ps_cons ⟨⟨_, rfl⟩, _, rfl⟩ (ps_cons (by rw [sub_neg' fb]; exact same _) (ps_cons ⟨⟨_, rfl⟩, _, rfl⟩ (ps_cons ⟨⟨_, rfl⟩, _, rfl⟩ (ps_cons ⟨⟨_, rfl⟩, _, rfl⟩ (ps_cons ⟨⟨_, rfl⟩, _, rfl⟩ (ps_cons ⟨⟨_, rfl⟩, _, rfl⟩ (ps_cons ⟨⟨_, rfl⟩, _, rfl⟩ (ps_cons ⟨⟨_, rfl⟩, _, rfl⟩ (ps_cons s0 (ps_cons r0 (ps_cons trivial ps_nil)))))))))))))))))))))))))))))))) ?_
  rfl
theorem IRtu_run (a b c : Iv) : runF P EL 1 5 [I a, I b, I c] (.lit :: (.b false :: (.b false :: (.b false :: (.b false :: (.b false :: (.b false :: (.b false :: (.b true :: (.lit :: (.b false :: (.b true :: [])))))))))))) =
  some (.bool true,
    [fineP [ivs [a, b, c]],
     (!(fineL [a, b, c])) = false,
     iP2 [I a, I b],
     iP2 [I b, I a],
     (!(((addI a b).lo == (addI b a).lo) && (((addI a b).hi == (addI b a).hi) && (((addI a b).bad) == ((addI b a).bad))))) = false,
     iP2 [I a, I b],
     iP2 [I b, I a],
     (!(((mulI a b).lo == (mulI b a).lo) && (((mulI a b).hi == (mulI b a).hi) && (((mulI a b).bad) == ((mulI b a).bad))))) = false,
     nP1 [.int .i64 1],
     iP2 [I (ofI 1), I a],
     (!(((mulI (ofI 1) a).lo == a.lo) && (((mulI (ofI 1) a).hi == a.hi) && (((mulI (ofI 1) a).bad) == a.bad)))) = false,
     nP1 [.int .i64 0],
     iP2 [I (ofI 0), I a],
     nP1 [.int .i64 0],
     (!(((mulI (ofI 0) a).lo == (pointI 0).lo) && (((mulI (ofI 0) a).hi == (pointI 0).hi) && (((mulI (ofI 0) a).bad) == ((pointI 0).bad))))) = false,
     iP1 [I a],
     iP1 [I (negI a)],
     (!(((negI (negI a)).lo == a.lo) && (((negI (negI a)).hi == a.hi) && (((negI (negI a)).bad) == a.bad)))) = false,
     iP2 [I a, I b],
     iP1 [I b],
     iP2 [I a, I (negI b)],
     (!(((subI a b).lo == (addI a (negI b)).lo) && (((subI a b).hi == (addI a (negI b)).hi) && (((subI a b).bad) == ((addI a (negI b)).bad))))) = false,
     iP2 [I a, I b],
     iP2 [I (addI a b), I b],
     iP2 [I b, I c],
     iP2 [I a, I (addI b c)],
     iP2 [I a, I b],
     iP2 [I a, I c],
     iP2 [I (mulI a b), I (mulI a c)],
     ((subI (addI a b) b).bad) = true,
     ((addI (mulI a b) (mulI a c)).bad) = false,
     ((mulI a (addI b c)).bad) = true,
     wakesP []]) := by kernel_rfl
theorem IRtu_leaf (a b c : Iv) (hf : fineL [a, b, c] = true) (s0 : (subI (addI a b) b).bad = true) (r0 : (addI (mulI a b) (mulI a c)).bad = false) (l0 : (mulI a (addI b c)).bad = true) : Gives P 5 #[I a, I b, I c] (.bool true) := by
  obtain ⟨fa, fb⟩ : fine a = true ∧ fine b = true := by
    have h : (fine a && (fine b && _)) = true := hf
    simp only [Bool.and_eq_true] at h
    exact ⟨h.1, h.2.1⟩
  have o1 : mulI (ofI 1) a = a := mul_one' fa
  have o0 : mulI (ofI 0) a = pointI 0 := mul_zero' fa
  have R := IRtu_run a b c
  refine gives_of_run mo R (ps_cons (ivs_ok (by simp)) (ps_cons (neg_f hf) (ps_cons ⟨⟨_, rfl⟩, _, rfl⟩ (ps_cons ⟨⟨_, rfl⟩, _, rfl⟩ (ps_cons (by rw [add_comm' a b]; exact same _) (ps_cons ⟨⟨_, rfl⟩, _, rfl⟩ (ps_cons ⟨⟨_, rfl⟩, _, rfl⟩ (ps_cons (by rw [mul_comm' a b]; exact same _) (ps_cons (by unfold nP1 I64; omega) (ps_cons ⟨⟨_, rfl⟩, _, rfl⟩ (ps_cons (by rw [o1]; exact same _) (ps_cons (by unfold nP1 I64; omega) (ps_cons ⟨⟨_, rfl⟩, _, rfl⟩ (ps_cons (by unfold nP1 I64; omega) (ps_cons (by rw [o0]; exact same _) (ps_cons ⟨_, rfl⟩ (ps_cons ⟨_, rfl⟩ (ps_cons (by rw [neg_neg' fa]; exact same _) (ps_cons ⟨⟨_, rfl⟩, _, rfl⟩ (ps_cons ⟨_, rfl⟩ (ps_cons ⟨⟨_, rfl⟩, _, rfl⟩ (ps_cons (by rw [sub_neg' fb]; exact same _) (ps_cons ⟨⟨_, rfl⟩, _, rfl⟩ (ps_cons ⟨⟨_, rfl⟩, _, rfl⟩ (ps_cons ⟨⟨_, rfl⟩, _, rfl⟩ (ps_cons ⟨⟨_, rfl⟩, _, rfl⟩ (ps_cons ⟨⟨_, rfl⟩, _, rfl⟩ (ps_cons ⟨⟨_, rfl⟩, _, rfl⟩ (ps_cons ⟨⟨_, rfl⟩, _, rfl⟩ (ps_cons s0 (ps_cons r0 (ps_cons l0 (ps_cons trivial ps_nil))))))))))))))))))))))))))))))))) ?_
  rfl
theorem IRtf_run (a b c : Iv) : runF P EL 1 5 [I a, I b, I c] (.lit :: (.b false :: (.b false :: (.b false :: (.b false :: (.b false :: (.b false :: (.b false :: (.b true :: (.lit :: (.b false :: (.b false :: (.b true :: []))))))))))))) =
  some (.bool true,
    [fineP [ivs [a, b, c]],
     (!(fineL [a, b, c])) = false,
     iP2 [I a, I b],
     iP2 [I b, I a],
     (!(((addI a b).lo == (addI b a).lo) && (((addI a b).hi == (addI b a).hi) && (((addI a b).bad) == ((addI b a).bad))))) = false,
     iP2 [I a, I b],
     iP2 [I b, I a],
     (!(((mulI a b).lo == (mulI b a).lo) && (((mulI a b).hi == (mulI b a).hi) && (((mulI a b).bad) == ((mulI b a).bad))))) = false,
     nP1 [.int .i64 1],
     iP2 [I (ofI 1), I a],
     (!(((mulI (ofI 1) a).lo == a.lo) && (((mulI (ofI 1) a).hi == a.hi) && (((mulI (ofI 1) a).bad) == a.bad)))) = false,
     nP1 [.int .i64 0],
     iP2 [I (ofI 0), I a],
     nP1 [.int .i64 0],
     (!(((mulI (ofI 0) a).lo == (pointI 0).lo) && (((mulI (ofI 0) a).hi == (pointI 0).hi) && (((mulI (ofI 0) a).bad) == ((pointI 0).bad))))) = false,
     iP1 [I a],
     iP1 [I (negI a)],
     (!(((negI (negI a)).lo == a.lo) && (((negI (negI a)).hi == a.hi) && (((negI (negI a)).bad) == a.bad)))) = false,
     iP2 [I a, I b],
     iP1 [I b],
     iP2 [I a, I (negI b)],
     (!(((subI a b).lo == (addI a (negI b)).lo) && (((subI a b).hi == (addI a (negI b)).hi) && (((subI a b).bad) == ((addI a (negI b)).bad))))) = false,
     iP2 [I a, I b],
     iP2 [I (addI a b), I b],
     iP2 [I b, I c],
     iP2 [I a, I (addI b c)],
     iP2 [I a, I b],
     iP2 [I a, I c],
     iP2 [I (mulI a b), I (mulI a c)],
     ((subI (addI a b) b).bad) = true,
     ((addI (mulI a b) (mulI a c)).bad) = false,
     ((mulI a (addI b c)).bad) = false,
     iP2 [I (addI (mulI a b) (mulI a c)), I (mulI a (addI b c))],
     (holdsI (addI (mulI a b) (mulI a c)) (mulI a (addI b c))) = true,
     wakesP []]) := by kernel_rfl
theorem IRtf_leaf (a b c : Iv) (hf : fineL [a, b, c] = true) (s0 : (subI (addI a b) b).bad = true) (r0 : (addI (mulI a b) (mulI a c)).bad = false) (l0 : (mulI a (addI b c)).bad = false) : Gives P 5 #[I a, I b, I c] (.bool true) := by
  obtain ⟨fa, fb⟩ : fine a = true ∧ fine b = true := by
    have h : (fine a && (fine b && _)) = true := hf
    simp only [Bool.and_eq_true] at h
    exact ⟨h.1, h.2.1⟩
  have o1 : mulI (ofI 1) a = a := mul_one' fa
  have o0 : mulI (ofI 0) a = pointI 0 := mul_zero' fa
  have R := IRtf_run a b c
  refine gives_of_run mo R (ps_cons (ivs_ok (by simp)) (ps_cons (neg_f hf) (ps_cons ⟨⟨_, rfl⟩, _, rfl⟩ (ps_cons ⟨⟨_, rfl⟩, _, rfl⟩ (ps_cons (by rw [add_comm' a b]; exact same _) (ps_cons ⟨⟨_, rfl⟩, _, rfl⟩ (ps_cons ⟨⟨_, rfl⟩, _, rfl⟩ (ps_cons (by rw [mul_comm' a b]; exact same _) (ps_cons (by unfold nP1 I64; omega) (ps_cons ⟨⟨_, rfl⟩, _, rfl⟩ (ps_cons (by rw [o1]; exact same _) (ps_cons (by unfold nP1 I64; omega) (ps_cons ⟨⟨_, rfl⟩, _, rfl⟩ (ps_cons (by unfold nP1 I64; omega) (ps_cons (by rw [o0]; exact same _) (ps_cons ⟨_, rfl⟩ (ps_cons ⟨_, rfl⟩ (ps_cons (by rw [neg_neg' fa]; exact same _) (ps_cons ⟨⟨_, rfl⟩, _, rfl⟩ (ps_cons ⟨_, rfl⟩ (ps_cons ⟨⟨_, rfl⟩, _, rfl⟩ (ps_cons (by rw [sub_neg' fb]; exact same _) (ps_cons ⟨⟨_, rfl⟩, _, rfl⟩ (ps_cons ⟨⟨_, rfl⟩, _, rfl⟩ (ps_cons ⟨⟨_, rfl⟩, _, rfl⟩ (ps_cons ⟨⟨_, rfl⟩, _, rfl⟩ (ps_cons ⟨⟨_, rfl⟩, _, rfl⟩ (ps_cons ⟨⟨_, rfl⟩, _, rfl⟩ (ps_cons ⟨⟨_, rfl⟩, _, rfl⟩ (ps_cons s0 (ps_cons r0 (ps_cons l0 (ps_cons ⟨⟨_, rfl⟩, _, rfl⟩ (ps_cons (distr r0 l0) (ps_cons trivial ps_nil))))))))))))))))))))))))))))))))))) ?_
  rfl
theorem IRft_run (a b c : Iv) : runF P EL 1 5 [I a, I b, I c] (.lit :: (.b false :: (.b false :: (.b false :: (.b false :: (.b false :: (.b false :: (.b false :: (.b false :: (.b true :: (.b true :: []))))))))))) =
  some (.bool true,
    [fineP [ivs [a, b, c]],
     (!(fineL [a, b, c])) = false,
     iP2 [I a, I b],
     iP2 [I b, I a],
     (!(((addI a b).lo == (addI b a).lo) && (((addI a b).hi == (addI b a).hi) && (((addI a b).bad) == ((addI b a).bad))))) = false,
     iP2 [I a, I b],
     iP2 [I b, I a],
     (!(((mulI a b).lo == (mulI b a).lo) && (((mulI a b).hi == (mulI b a).hi) && (((mulI a b).bad) == ((mulI b a).bad))))) = false,
     nP1 [.int .i64 1],
     iP2 [I (ofI 1), I a],
     (!(((mulI (ofI 1) a).lo == a.lo) && (((mulI (ofI 1) a).hi == a.hi) && (((mulI (ofI 1) a).bad) == a.bad)))) = false,
     nP1 [.int .i64 0],
     iP2 [I (ofI 0), I a],
     nP1 [.int .i64 0],
     (!(((mulI (ofI 0) a).lo == (pointI 0).lo) && (((mulI (ofI 0) a).hi == (pointI 0).hi) && (((mulI (ofI 0) a).bad) == ((pointI 0).bad))))) = false,
     iP1 [I a],
     iP1 [I (negI a)],
     (!(((negI (negI a)).lo == a.lo) && (((negI (negI a)).hi == a.hi) && (((negI (negI a)).bad) == a.bad)))) = false,
     iP2 [I a, I b],
     iP1 [I b],
     iP2 [I a, I (negI b)],
     (!(((subI a b).lo == (addI a (negI b)).lo) && (((subI a b).hi == (addI a (negI b)).hi) && (((subI a b).bad) == ((addI a (negI b)).bad))))) = false,
     iP2 [I a, I b],
     iP2 [I (addI a b), I b],
     iP2 [I b, I c],
     iP2 [I a, I (addI b c)],
     iP2 [I a, I b],
     iP2 [I a, I c],
     iP2 [I (mulI a b), I (mulI a c)],
     ((subI (addI a b) b).bad) = false,
     iP2 [I (subI (addI a b) b), I a],
     (holdsI (subI (addI a b) b) a) = true,
     ((addI (mulI a b) (mulI a c)).bad) = true,
     wakesP []]) := by kernel_rfl
theorem IRft_leaf (a b c : Iv) (hf : fineL [a, b, c] = true) (s0 : (subI (addI a b) b).bad = false) (r0 : (addI (mulI a b) (mulI a c)).bad = true) : Gives P 5 #[I a, I b, I c] (.bool true) := by
  obtain ⟨fa, fb⟩ : fine a = true ∧ fine b = true := by
    have h : (fine a && (fine b && _)) = true := hf
    simp only [Bool.and_eq_true] at h
    exact ⟨h.1, h.2.1⟩
  have o1 : mulI (ofI 1) a = a := mul_one' fa
  have o0 : mulI (ofI 0) a = pointI 0 := mul_zero' fa
  have R := IRft_run a b c
  refine gives_of_run mo R (ps_cons (ivs_ok (by simp)) (ps_cons (neg_f hf) (ps_cons ⟨⟨_, rfl⟩, _, rfl⟩ (ps_cons ⟨⟨_, rfl⟩, _, rfl⟩ (ps_cons (by rw [add_comm' a b]; exact same _) (ps_cons ⟨⟨_, rfl⟩, _, rfl⟩ (ps_cons ⟨⟨_, rfl⟩, _, rfl⟩ (ps_cons (by rw [mul_comm' a b]; exact same _) (ps_cons (by unfold nP1 I64; omega) (ps_cons ⟨⟨_, rfl⟩, _, rfl⟩ (ps_cons (by rw [o1]; exact same _) (ps_cons (by unfold nP1 I64; omega) (ps_cons ⟨⟨_, rfl⟩, _, rfl⟩ (ps_cons (by unfold nP1 I64; omega) (ps_cons (by rw [o0]; exact same _) (ps_cons ⟨_, rfl⟩ (ps_cons ⟨_, rfl⟩ (ps_cons (by rw [neg_neg' fa]; exact same _) (ps_cons ⟨⟨_, rfl⟩, _, rfl⟩ (ps_cons ⟨_, rfl⟩ (ps_cons ⟨⟨_, rfl⟩, _, rfl⟩ (ps_cons (by rw [sub_neg' fb]; exact same _) (ps_cons ⟨⟨_, rfl⟩, _, rfl⟩ (ps_cons ⟨⟨_, rfl⟩, _, rfl⟩ (ps_cons ⟨⟨_, rfl⟩, _, rfl⟩ (ps_cons ⟨⟨_, rfl⟩, _, rfl⟩ (ps_cons ⟨⟨_, rfl⟩, _, rfl⟩ (ps_cons ⟨⟨_, rfl⟩, _, rfl⟩ (ps_cons ⟨⟨_, rfl⟩, _, rfl⟩ (ps_cons s0 (ps_cons ⟨⟨_, rfl⟩, _, rfl⟩ (ps_cons (sub_add fa s0) (ps_cons r0 (ps_cons trivial ps_nil)))))))))))))))))))))))))))))))))) ?_
  rfl
theorem IRfu_run (a b c : Iv) : runF P EL 1 5 [I a, I b, I c] (.lit :: (.b false :: (.b false :: (.b false :: (.b false :: (.b false :: (.b false :: (.b false :: (.b false :: (.b true :: (.b false :: (.b true :: [])))))))))))) =
  some (.bool true,
    [fineP [ivs [a, b, c]],
     (!(fineL [a, b, c])) = false,
     iP2 [I a, I b],
     iP2 [I b, I a],
     (!(((addI a b).lo == (addI b a).lo) && (((addI a b).hi == (addI b a).hi) && (((addI a b).bad) == ((addI b a).bad))))) = false,
     iP2 [I a, I b],
     iP2 [I b, I a],
     (!(((mulI a b).lo == (mulI b a).lo) && (((mulI a b).hi == (mulI b a).hi) && (((mulI a b).bad) == ((mulI b a).bad))))) = false,
     nP1 [.int .i64 1],
     iP2 [I (ofI 1), I a],
     (!(((mulI (ofI 1) a).lo == a.lo) && (((mulI (ofI 1) a).hi == a.hi) && (((mulI (ofI 1) a).bad) == a.bad)))) = false,
     nP1 [.int .i64 0],
     iP2 [I (ofI 0), I a],
     nP1 [.int .i64 0],
     (!(((mulI (ofI 0) a).lo == (pointI 0).lo) && (((mulI (ofI 0) a).hi == (pointI 0).hi) && (((mulI (ofI 0) a).bad) == ((pointI 0).bad))))) = false,
     iP1 [I a],
     iP1 [I (negI a)],
     (!(((negI (negI a)).lo == a.lo) && (((negI (negI a)).hi == a.hi) && (((negI (negI a)).bad) == a.bad)))) = false,
     iP2 [I a, I b],
     iP1 [I b],
     iP2 [I a, I (negI b)],
     (!(((subI a b).lo == (addI a (negI b)).lo) && (((subI a b).hi == (addI a (negI b)).hi) && (((subI a b).bad) == ((addI a (negI b)).bad))))) = false,
     iP2 [I a, I b],
     iP2 [I (addI a b), I b],
     iP2 [I b, I c],
     iP2 [I a, I (addI b c)],
     iP2 [I a, I b],
     iP2 [I a, I c],
     iP2 [I (mulI a b), I (mulI a c)],
     ((subI (addI a b) b).bad) = false,
     iP2 [I (subI (addI a b) b), I a],
     (holdsI (subI (addI a b) b) a) = true,
     ((addI (mulI a b) (mulI a c)).bad) = false,
     ((mulI a (addI b c)).bad) = true,
     wakesP []]) := by kernel_rfl
theorem IRfu_leaf (a b c : Iv) (hf : fineL [a, b, c] = true) (s0 : (subI (addI a b) b).bad = false) (r0 : (addI (mulI a b) (mulI a c)).bad = false) (l0 : (mulI a (addI b c)).bad = true) : Gives P 5 #[I a, I b, I c] (.bool true) := by
  obtain ⟨fa, fb⟩ : fine a = true ∧ fine b = true := by
    have h : (fine a && (fine b && _)) = true := hf
    simp only [Bool.and_eq_true] at h
    exact ⟨h.1, h.2.1⟩
  have o1 : mulI (ofI 1) a = a := mul_one' fa
  have o0 : mulI (ofI 0) a = pointI 0 := mul_zero' fa
  have R := IRfu_run a b c
  refine gives_of_run mo R (ps_cons (ivs_ok (by simp)) (ps_cons (neg_f hf) (ps_cons ⟨⟨_, rfl⟩, _, rfl⟩ (ps_cons ⟨⟨_, rfl⟩, _, rfl⟩ (ps_cons (by rw [add_comm' a b]; exact same _) (ps_cons ⟨⟨_, rfl⟩, _, rfl⟩ (ps_cons ⟨⟨_, rfl⟩, _, rfl⟩ (ps_cons (by rw [mul_comm' a b]; exact same _) (ps_cons (by unfold nP1 I64; omega) (ps_cons ⟨⟨_, rfl⟩, _, rfl⟩ (ps_cons (by rw [o1]; exact same _) (ps_cons (by unfold nP1 I64; omega) (ps_cons ⟨⟨_, rfl⟩, _, rfl⟩ (ps_cons (by unfold nP1 I64; omega) (ps_cons (by rw [o0]; exact same _) (ps_cons ⟨_, rfl⟩ (ps_cons ⟨_, rfl⟩ (ps_cons (by rw [neg_neg' fa]; exact same _) (ps_cons ⟨⟨_, rfl⟩, _, rfl⟩ (ps_cons ⟨_, rfl⟩ (ps_cons ⟨⟨_, rfl⟩, _, rfl⟩ (ps_cons (by rw [sub_neg' fb]; exact same _) (ps_cons ⟨⟨_, rfl⟩, _, rfl⟩ (ps_cons ⟨⟨_, rfl⟩, _, rfl⟩ (ps_cons ⟨⟨_, rfl⟩, _, rfl⟩ (ps_cons ⟨⟨_, rfl⟩, _, rfl⟩ (ps_cons ⟨⟨_, rfl⟩, _, rfl⟩ (ps_cons ⟨⟨_, rfl⟩, _, rfl⟩ (ps_cons ⟨⟨_, rfl⟩, _, rfl⟩ (ps_cons s0 (ps_cons ⟨⟨_, rfl⟩, _, rfl⟩ (ps_cons (sub_add fa s0) (ps_cons r0 (ps_cons l0 (ps_cons trivial ps_nil))))))))))))))))))))))))))))))))))) ?_
  rfl
theorem IRff_run (a b c : Iv) : runF P EL 1 5 [I a, I b, I c] (.lit :: (.b false :: (.b false :: (.b false :: (.b false :: (.b false :: (.b false :: (.b false :: (.b false :: (.b true :: (.b false :: (.b false :: (.b true :: []))))))))))))) =
  some (.bool true,
    [fineP [ivs [a, b, c]],
     (!(fineL [a, b, c])) = false,
     iP2 [I a, I b],
     iP2 [I b, I a],
     (!(((addI a b).lo == (addI b a).lo) && (((addI a b).hi == (addI b a).hi) && (((addI a b).bad) == ((addI b a).bad))))) = false,
     iP2 [I a, I b],
     iP2 [I b, I a],
     (!(((mulI a b).lo == (mulI b a).lo) && (((mulI a b).hi == (mulI b a).hi) && (((mulI a b).bad) == ((mulI b a).bad))))) = false,
     nP1 [.int .i64 1],
     iP2 [I (ofI 1), I a],
     (!(((mulI (ofI 1) a).lo == a.lo) && (((mulI (ofI 1) a).hi == a.hi) && (((mulI (ofI 1) a).bad) == a.bad)))) = false,
     nP1 [.int .i64 0],
     iP2 [I (ofI 0), I a],
     nP1 [.int .i64 0],
     (!(((mulI (ofI 0) a).lo == (pointI 0).lo) && (((mulI (ofI 0) a).hi == (pointI 0).hi) && (((mulI (ofI 0) a).bad) == ((pointI 0).bad))))) = false,
     iP1 [I a],
     iP1 [I (negI a)],
     (!(((negI (negI a)).lo == a.lo) && (((negI (negI a)).hi == a.hi) && (((negI (negI a)).bad) == a.bad)))) = false,
     iP2 [I a, I b],
     iP1 [I b],
     iP2 [I a, I (negI b)],
     (!(((subI a b).lo == (addI a (negI b)).lo) && (((subI a b).hi == (addI a (negI b)).hi) && (((subI a b).bad) == ((addI a (negI b)).bad))))) = false,
     iP2 [I a, I b],
     iP2 [I (addI a b), I b],
     iP2 [I b, I c],
     iP2 [I a, I (addI b c)],
     iP2 [I a, I b],
     iP2 [I a, I c],
     iP2 [I (mulI a b), I (mulI a c)],
     ((subI (addI a b) b).bad) = false,
     iP2 [I (subI (addI a b) b), I a],
     (holdsI (subI (addI a b) b) a) = true,
     ((addI (mulI a b) (mulI a c)).bad) = false,
     ((mulI a (addI b c)).bad) = false,
     iP2 [I (addI (mulI a b) (mulI a c)), I (mulI a (addI b c))],
     (holdsI (addI (mulI a b) (mulI a c)) (mulI a (addI b c))) = true,
     wakesP []]) := by kernel_rfl
theorem IRff_leaf (a b c : Iv) (hf : fineL [a, b, c] = true) (s0 : (subI (addI a b) b).bad = false) (r0 : (addI (mulI a b) (mulI a c)).bad = false) (l0 : (mulI a (addI b c)).bad = false) : Gives P 5 #[I a, I b, I c] (.bool true) := by
  obtain ⟨fa, fb⟩ : fine a = true ∧ fine b = true := by
    have h : (fine a && (fine b && _)) = true := hf
    simp only [Bool.and_eq_true] at h
    exact ⟨h.1, h.2.1⟩
  have o1 : mulI (ofI 1) a = a := mul_one' fa
  have o0 : mulI (ofI 0) a = pointI 0 := mul_zero' fa
  have R := IRff_run a b c
  refine gives_of_run mo R (ps_cons (ivs_ok (by simp)) (ps_cons (neg_f hf) (ps_cons ⟨⟨_, rfl⟩, _, rfl⟩ (ps_cons ⟨⟨_, rfl⟩, _, rfl⟩ (ps_cons (by rw [add_comm' a b]; exact same _) (ps_cons ⟨⟨_, rfl⟩, _, rfl⟩ (ps_cons ⟨⟨_, rfl⟩, _, rfl⟩ (ps_cons (by rw [mul_comm' a b]; exact same _) (ps_cons (by unfold nP1 I64; omega) (ps_cons ⟨⟨_, rfl⟩, _, rfl⟩ (ps_cons (by rw [o1]; exact same _) (ps_cons (by unfold nP1 I64; omega) (ps_cons ⟨⟨_, rfl⟩, _, rfl⟩ (ps_cons (by unfold nP1 I64; omega) (ps_cons (by rw [o0]; exact same _) (ps_cons ⟨_, rfl⟩ (ps_cons ⟨_, rfl⟩ (ps_cons (by rw [neg_neg' fa]; exact same _) (ps_cons ⟨⟨_, rfl⟩, _, rfl⟩ (ps_cons ⟨_, rfl⟩ (ps_cons ⟨⟨_, rfl⟩, _, rfl⟩ (ps_cons (by rw [sub_neg' fb]; exact same _) (ps_cons ⟨⟨_, rfl⟩, _, rfl⟩ (ps_cons ⟨⟨_, rfl⟩, _, rfl⟩ (ps_cons ⟨⟨_, rfl⟩, _, rfl⟩ (ps_cons ⟨⟨_, rfl⟩, _, rfl⟩ (ps_cons ⟨⟨_, rfl⟩, _, rfl⟩ (ps_cons ⟨⟨_, rfl⟩, _, rfl⟩ (ps_cons ⟨⟨_, rfl⟩, _, rfl⟩ (ps_cons s0 (ps_cons ⟨⟨_, rfl⟩, _, rfl⟩ (ps_cons (sub_add fa s0) (ps_cons r0 (ps_cons l0 (ps_cons ⟨⟨_, rfl⟩, _, rfl⟩ (ps_cons (distr r0 l0) (ps_cons trivial ps_nil))))))))))))))))))))))))))))))))))))) ?_
  rfl
theorem IvalRing_all (a b c : Iv) : Gives P 5 #[I a, I b, I c] (.bool true) := by
  cases hf : fineL [a, b, c] with
  | false => exact IR0_leaf a b c hf
  | true =>
    cases s0 : (subI (addI a b) b).bad <;> cases r0 : (addI (mulI a b) (mulI a c)).bad
    · cases l0 : (mulI a (addI b c)).bad
      · exact IRff_leaf a b c hf s0 r0 l0
      · exact IRfu_leaf a b c hf s0 r0 l0
    · exact IRft_leaf a b c hf s0 r0
    · cases l0 : (mulI a (addI b c)).bad
      · exact IRtf_leaf a b c hf s0 r0 l0
      · exact IRtu_leaf a b c hf s0 r0 l0
    · exact IRtt_leaf a b c hf s0 r0
end Go.Iv
