/-
  Laws of chapter 8: wakes, in, meets. Printed by stE.py.
-/
import Derived.Test.YtmlmfjlecgcndaaDoorStD
import Derived.Test.YtmlmfjlecgcndaaDoorRf5
set_option maxRecDepth 100000
namespace Go.St
open Go Go.RowKit Go.Sx Go.Nm Go.Wd Go.Qt Go.Iv Go.An Go.Wv Go.Proofs

theorem in_math {n w : Int} (hw : 1 ≤ w) (hw2 : w ≤ 2305843009213693953) : IntKind.i64.wrap (n.tmod w + w) = n.tmod w + w ∧ (n.tmod w + w).tmod w = n % w := by
  have h1 := Int.tmod_lt_of_pos n (show 0 < w by omega)
  have h2 : -w < n.tmod w := by
    have := Int.lt_tmod_of_pos n (show 0 < w by omega)
    omega
  refine ⟨wr (by omega) (by omega), ?_⟩
  rw [Int.tmod_eq_emod_of_nonneg (by omega), Int.add_emod_right]
  have e := Int.mul_tdiv_add_tmod n w
  conv => rhs; rw [← e]
  rw [Int.add_comm, Int.add_mul_emod_self_left]
def wakesP : List Value → Prop
  | [] => True
  | _ => False
def wakesV : List Value → Value
  | [] => .bool true
  | _ => undef
def te8P : List Value → Prop
  | [.int .i64 k, .int .i64 p, .int .i64 n] => k = 2 ∧ p = 0 ∧ n = 0
  | _ => False
def tm8 (k p n : Int) : Iv := tk k.toNat p n.toNat
def te8V : List Value → Value
  | [.int _ k, .int _ p, .int _ n] => I (tm8 k p n)
  | _ => undef
noncomputable def ET : Env P := ⟨⟨ivalC, ivalD⟩, [], 20, []⟩
theorem te8_run : runF P ET 4 33 [.int .i64 2, .int .i64 0, .int .i64 0] [] =
  some (I (partI (ofI 1) 1 2),
    [nP1 [.int .i64 1],
     partP [I (ofI 1), .int .i64 1, .int .i64 2]]) := by kernel_rfl
theorem te8_gives (args : List Value) (h : te8P args) : Gives P 33 args.toArray (te8V args) := by
  unfold te8P at h
  split at h
  · obtain ⟨rfl, rfl, rfl⟩ := h
    exact gives_of_run mo te8_run (ps_cons (by unfold nP1 I64; omega) (ps_cons ⟨⟨_, rfl⟩, by unfold I64; omega, by unfold I64; omega⟩ ps_nil)) rfl
  · exact h.elim
noncomputable def cTerm8 : Ctr P := ⟨33, te8P, te8V, te8_gives⟩
def faP : List Value → Prop
  | [.int .i64 n] => n = 5 ∨ n = 21
  | _ => False
def fa (n : Int) : Int := if n = 5 then 120 else 0
def fb (n : Int) : Bool := decide (n = 5)
def faV : List Value → Value
  | [.int _ n] => .tuple #[.int .i64 (fa n), .bool (fb n)]
  | _ => undef
theorem fa5_run : runF P ET 2 32 [.int .i64 5] [] =
  some (.tuple #[.int .i64 120, .bool true],
    []) := by kernel_rfl
theorem fa21_run : runF P ET 2 32 [.int .i64 21] [] =
  some (.tuple #[.int .i64 0, .bool false],
    []) := by kernel_rfl
theorem fa_gives (args : List Value) (h : faP args) : Gives P 32 args.toArray (faV args) := by
  unfold faP at h
  split at h
  · rcases h with rfl | rfl
    · exact gives_of_run mo fa5_run ps_nil rfl
    · exact gives_of_run mo fa21_run ps_nil rfl
  · exact h.elim
noncomputable def cFact : Ctr P := ⟨32, faP, faV, fa_gives⟩
noncomputable def EW : Env P := ⟨⟨[cTerm8, cFact] ++ stuC ++ R5.rf5C ++ ivalC, rFine :: ivalD⟩, [], 20, []⟩
theorem wakes_run : runF P EW 1 17 [] [] = some (.bool true,
    [iP1 [I (⟨0, 0, false⟩)],
     faP [.int .i64 5],
     faP [.int .i64 21],
     te8P [.int .i64 2, .int .i64 0, .int .i64 0],
     nP1 [.int .i64 1],
     iP2 [I (cV 0 (⟨0, 0, false⟩)), I (ofI 1)],
     nP1 [.int .i64 1],
     iP2 [I (cV 1 (⟨0, 0, false⟩)), I (ofI 1)],
     iP2 [I (cV 2 (⟨0, 0, false⟩)), I (⟨536870912, 536870912, false⟩)],
     cP [.int .i64 4, I (⟨0, 0, false⟩)],
     cP [.int .i64 0, I (⟨18253611008, 18253611008, false⟩)]]) := by kernel_rfl
theorem wakes_gives (args : List Value) (h : wakesP args) : Gives P 17 args.toArray (wakesV args) := by
  unfold wakesP at h
  split at h
  · exact gives_of_run mo wakes_run (ps_cons ⟨_, rfl⟩ (ps_cons (.inl rfl) (ps_cons (.inr rfl) (ps_cons ⟨rfl, rfl, rfl⟩ (ps_cons (by unfold nP1 I64; omega) (ps_cons ⟨⟨_, rfl⟩, _, rfl⟩ (ps_cons (by unfold nP1 I64; omega) (ps_cons ⟨⟨_, rfl⟩, _, rfl⟩ (ps_cons ⟨⟨_, rfl⟩, _, rfl⟩ (ps_cons ⟨_, rfl⟩ (ps_cons ⟨_, rfl⟩ ps_nil))))))))))) rfl
  · exact h.elim
noncomputable def cWakes : Ctr P := ⟨17, wakesP, wakesV, wakes_gives⟩
/-! ### in -/
def inP : List Value → Prop
  | [.int .i64 _, .int .i64 m] => 0 ≤ m ∧ m ≤ 1152921504606846976
  | _ => False
def inS (m n : Int) : Int := n % (2 * m + 1) - m
def inV : List Value → Value
  | [.int _ n, .int _ m] => .int .i64 (inS m n)
  | _ => undef
theorem inS_in {m : Int} (n : Int) (h : 0 ≤ m) : -m ≤ inS m n ∧ inS m n ≤ m := by
  have r1 := Int.emod_nonneg n (show 2 * m + 1 ≠ 0 by omega)
  have r2 := Int.emod_lt_of_pos n (show 0 < 2 * m + 1 by omega)
  unfold inS
  omega
theorem inW8 {m : Int} (n : Int) (h : 0 ≤ m) (h2 : m ≤ 1152921504606846976) : IntKind.i64.wrap (IntKind.i64.wrap (2 * m) + 1) ≠ 0 ∧ IntKind.i64.wrap ((IntKind.i64.wrap (n.tmod (IntKind.i64.wrap (IntKind.i64.wrap (2 * m) + 1)) + (IntKind.i64.wrap (IntKind.i64.wrap (2 * m) + 1)))).tmod (IntKind.i64.wrap (IntKind.i64.wrap (2 * m) + 1)) - m) = inS m n := by
  have w1 : IntKind.i64.wrap (2 * m) = 2 * m := wr (by omega) (by omega)
  have w2 : IntKind.i64.wrap (2 * m + 1) = 2 * m + 1 := wr (by omega) (by omega)
  have w3 := in_math (n := n) (w := 2 * m + 1) (by omega) (by omega)
  have b := inS_in n h
  unfold inS at b
  rw [w1, w2, w3.1, w3.2]
  exact ⟨by omega, wr (by omega) (by omega)⟩
noncomputable def E0 : Env P := ⟨⟨[], [rFine]⟩, [], 10, []⟩
theorem in80_run (n m : Int) : runF P E0 1 13 [.int .i64 n, .int .i64 m] [] =
  some (.int .i64 (IntKind.i64.wrap ((IntKind.i64.wrap (n.tmod (IntKind.i64.wrap (IntKind.i64.wrap (2 * m) + 1)) + (IntKind.i64.wrap (IntKind.i64.wrap (2 * m) + 1)))).tmod (IntKind.i64.wrap (IntKind.i64.wrap (2 * m) + 1)) - m)),
    [IntKind.i64.wrap (IntKind.i64.wrap (2 * m) + 1) ≠ 0,
     IntKind.i64.wrap (IntKind.i64.wrap (2 * m) + 1) ≠ 0]) := by kernel_rfl
theorem in80_leaf (n m : Int) (h1 : 0 ≤ m) (h2 : m ≤ 1152921504606846976)  : Gives P 13 #[.int .i64 n, .int .i64 m] (.int .i64 (inS m n)) := by
  have R := in80_run n m
  refine gives_of_run mo R (ps_cons (inW8 n h1 h2).1 (ps_cons (inW8 n h1 h2).1 ps_nil)) ?_
  rw [(inW8 n h1 h2).2]
theorem in8_gives (args : List Value) (h : inP args) : Gives P 13 args.toArray ((inV) args) := by
  unfold inP at h
  split at h
  · rename_i n m
    obtain ⟨h1, h2⟩ := h
    show Gives P _ #[.int .i64 n, .int .i64 m] (.int .i64 (inS m n))
    exact in80_leaf n m h1 h2 
  · exact h.elim
noncomputable def cIn : Ctr P := ⟨13, inP, inV, in8_gives⟩
/-! ### meets -/
theorem me80_run (a b : Iv) : runF P E0 1 15 [I a, I b] (.lit :: (.b false :: (.b true :: []))) =
  some (.bool (decide (b.lo ≤ a.hi)),
    [fineP [ivs [a, b]],
     (!(fineL [a, b])) = false,
     (decide (a.lo ≤ b.hi)) = true]) := by kernel_rfl
theorem me80_leaf (a b : Iv)  (q0 : (fineL [a, b]) = true) (q1 : (decide (a.lo ≤ b.hi)) = true) : Gives P 15 #[I a, I b] (.bool (mtS a b)) := by
  have R := me80_run a b
  refine gives_of_run mo R (ps_cons (ivs_ok (by simp)) (ps_cons (neg_f q0) (ps_cons q1 ps_nil))) ?_
  unfold mtS
  rw [q0, q1]
  rfl
theorem me81_run (a b : Iv) : runF P E0 1 15 [I a, I b] (.lit :: (.b true :: [])) =
  some (.bool true,
    [fineP [ivs [a, b]],
     (!(fineL [a, b])) = true]) := by kernel_rfl
theorem me81_leaf (a b : Iv)  (q0 : (fineL [a, b]) = false) : Gives P 15 #[I a, I b] (.bool (mtS a b)) := by
  have R := me81_run a b
  refine gives_of_run mo R (ps_cons (ivs_ok (by simp)) (ps_cons (neg_t q0) ps_nil)) ?_
  unfold mtS
  rw [q0]
  rfl
theorem me82_run (a b : Iv) : runF P E0 1 15 [I a, I b] (.lit :: (.b false :: (.b false :: []))) =
  some (.bool false,
    [fineP [ivs [a, b]],
     (!(fineL [a, b])) = false,
     (decide (a.lo ≤ b.hi)) = false]) := by kernel_rfl
theorem me82_leaf (a b : Iv)  (q0 : (fineL [a, b]) = true) (q1 : (decide (a.lo ≤ b.hi)) = false) : Gives P 15 #[I a, I b] (.bool (mtS a b)) := by
  have R := me82_run a b
  refine gives_of_run mo R (ps_cons (ivs_ok (by simp)) (ps_cons (neg_f q0) (ps_cons q1 ps_nil))) ?_
  unfold mtS
  rw [q0, q1]
  rfl
theorem me8_gives (args : List Value) (h : iP2 args) : Gives P 15 args.toArray ((two2 fun a b => .bool (mtS a b)) args) := by
  unfold iP2 at h
  split at h
  · obtain ⟨⟨a, rfl⟩, b, rfl⟩ := h
    show Gives P _ #[I a, I b] (.bool (mtS a b))
    cases q0 : (fineL [a, b]) with
    | true =>
      cases q1 : (decide (a.lo ≤ b.hi)) with
      | true =>
        exact me80_leaf a b  q0 q1
      | false =>
        exact me82_leaf a b  q0 q1
    | false =>
      exact me81_leaf a b  q0
  · exact h.elim
noncomputable def cMeets : Ctr P := ⟨15, iP2, two2 fun a b => .bool (mtS a b), me8_gives⟩
noncomputable def EL : Env P := ⟨⟨[cWakes, cIn, cMeets] ++ stuC ++ R5.rf5C, [rFine]⟩, [], 20, []⟩
theorem cV_eq (k : Nat) (hk : k ≤ 3) (a : Iv) : cV k a = cI k a := by
  unfold cV
  rw [decide_eq_true (by omega : (k : Int) ≥ 0), decide_eq_true (by omega : (k : Int) ≤ 3)]
  rfl
theorem fl1 {a : Iv} {l : List Iv} (h : fine a = true) (k : fineL l = true) : fineL (a :: l) = true := by show (fine a && fineL l) = true; rw [h, k]; rfl
end Go.St
