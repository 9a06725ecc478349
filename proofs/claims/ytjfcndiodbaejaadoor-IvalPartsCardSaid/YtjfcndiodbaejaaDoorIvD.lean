/-
  ival: Of, Hull, Holds. Printed by ivD.py.
-/
import Derived.Test.YtjfcndiodbaejaaDoorIvC
set_option maxRecDepth 100000
namespace Go.Iv
open Go Go.RowKit Go.Sx Go.Nm Go.Wd Go.Qt Go.Proofs

theorem tdiv_small {w : Int} (h1 : -1152921504606846976 ≤ w) (h2 : w ≤ 1152921504606846976) : -1073741824 ≤ w.tdiv 1073741824 ∧ w.tdiv 1073741824 ≤ 1073741824 := by
  have h4 : (w.tdiv 1073741824).natAbs = w.natAbs / 1073741824 := Int.natAbs_tdiv w 1073741824
  have h3 : w.natAbs / 1073741824 ≤ 1073741824 := by
    have : w.natAbs ≤ 1073741824 * 1073741824 := by omega
    omega
  omega
def inW (n : Int) : Bool := decide (n ≥ -1152921504606846976) && decide (n ≤ 1152921504606846976)
theorem inW_iff {n : Int} : inW n = true ↔ -1152921504606846976 ≤ n ∧ n ≤ 1152921504606846976 := by unfold inW; simp
def winP : List Value → Prop
  | [.int .i64 _] => True
  | _ => False
theorem win0_run (n : Int) : runF P V0 1 53 [.int .i64 n] (.b false :: []) =
  some (.bool false,
    [(decide (n ≥ -1152921504606846976)) = false]) := by kernel_rfl
theorem win0_leaf (n : Int) (h : decide (n ≥ -1152921504606846976) = false) : Gives P 53 #[.int .i64 n] (.bool (inW n)) := by
  have R := win0_run n
  refine gives_of_run mo R (ps_cons h ps_nil) ?_
  unfold inW
  rw [h]
  rfl
theorem win1_run (n : Int) : runF P V0 1 53 [.int .i64 n] (.b true :: []) =
  some (.bool (decide (n ≤ 1152921504606846976)),
    [(decide (n ≥ -1152921504606846976)) = true]) := by kernel_rfl
theorem win1_leaf (n : Int) (h : decide (n ≥ -1152921504606846976) = true) : Gives P 53 #[.int .i64 n] (.bool (inW n)) := by
  have R := win1_run n
  refine gives_of_run mo R (ps_cons h ps_nil) ?_
  unfold inW
  rw [h]
  rfl
theorem win_gives (args : List Value) (h : winP args) : Gives P 53 args.toArray ((n1V fun n => .bool (inW n)) args) := by
  unfold winP at h
  split at h
  · rename_i n
    cases h : decide (n ≥ -1152921504606846976) with
    | false => exact win0_leaf n h
    | true => exact win1_leaf n h
  · exact h.elim
noncomputable def cWithin : Ctr P := ⟨53, winP, n1V fun n => .bool (inW n), win_gives⟩
noncomputable def J1w : Env P := ⟨⟨[cWithin], [cFine]⟩, [], 10, []⟩
theorem of0_run (n : Int) : runF P J1w 3 23 [.int .i64 n] (.lit :: (.b false :: [])) =
  some (I (⟨0, 0, true⟩),
    [fineP [.v (.slice none 0 0)],
     winP [.int .i64 n],
     (inW n) = false]) := by kernel_rfl
theorem of0_leaf (n : Int) (q0 : inW n = false) (hr : ofI n = bd) : Gives P 23 #[.int .i64 n] (I (ofI n)) := by
  have R := of0_run n
  refine gives_of_run mo R (ps_cons rfl (ps_cons trivial (ps_cons q0 ps_nil))) ?_
  rw [hr]
  all_goals rfl
theorem of1_run (n : Int) : runF P J1w 3 23 [.int .i64 n] (.lit :: (.b true :: (.b false :: []))) =
  some (I (⟨0, 0, true⟩),
    [fineP [.v (.slice none 0 0)],
     winP [.int .i64 n],
     (inW n) = true,
     winP [.int .i64 (IntKind.i64.wrap (n * 1073741824))],
     (inW (IntKind.i64.wrap (n * 1073741824))) = false]) := by kernel_rfl
theorem of1_leaf (n : Int) (q0 : inW n = true) (q1 : inW (IntKind.i64.wrap (n * 1073741824)) = false) (hr : ofI n = bd) : Gives P 23 #[.int .i64 n] (I (ofI n)) := by
  have R := of1_run n
  refine gives_of_run mo R (ps_cons rfl (ps_cons trivial (ps_cons q0 (ps_cons trivial (ps_cons q1 ps_nil))))) ?_
  rw [hr]
  all_goals rfl
theorem of2_run (n : Int) : runF P J1w 3 23 [.int .i64 n] (.lit :: (.b true :: (.b true :: (.b false :: [])))) =
  some (I (⟨0, 0, true⟩),
    [fineP [.v (.slice none 0 0)],
     winP [.int .i64 n],
     (inW n) = true,
     winP [.int .i64 (IntKind.i64.wrap (n * 1073741824))],
     (inW (IntKind.i64.wrap (n * 1073741824))) = true,
     (IntKind.i64.wrap ((IntKind.i64.wrap (n * 1073741824)).tdiv 1073741824) == n) = false]) := by kernel_rfl
theorem of2_leaf (n : Int) (q0 : inW n = true) (q1 : inW (IntKind.i64.wrap (n * 1073741824)) = true) (q2 : (IntKind.i64.wrap ((IntKind.i64.wrap (n * 1073741824)).tdiv 1073741824) == n) = false) (hr : ofI n = bd) : Gives P 23 #[.int .i64 n] (I (ofI n)) := by
  have R := of2_run n
  refine gives_of_run mo R (ps_cons rfl (ps_cons trivial (ps_cons q0 (ps_cons trivial (ps_cons q1 (ps_cons q2 ps_nil)))))) ?_
  rw [hr]
  all_goals rfl
theorem of5_run (n : Int) : runF P J1w 3 23 [.int .i64 n] (.lit :: (.b true :: (.b true :: (.b true :: (.lit :: (.b true :: [])))))) =
  some (I (⟨IntKind.i64.wrap (n * 1073741824), IntKind.i64.wrap (n * 1073741824), false⟩),
    [fineP [.v (.slice none 0 0)],
     winP [.int .i64 n],
     (inW n) = true,
     winP [.int .i64 (IntKind.i64.wrap (n * 1073741824))],
     (inW (IntKind.i64.wrap (n * 1073741824))) = true,
     (IntKind.i64.wrap ((IntKind.i64.wrap (n * 1073741824)).tdiv 1073741824) == n) = true,
     fineP [ivs [⟨IntKind.i64.wrap (n * 1073741824), IntKind.i64.wrap (n * 1073741824), false⟩]],
     (fineL [⟨IntKind.i64.wrap (n * 1073741824), IntKind.i64.wrap (n * 1073741824), false⟩]) = true]) := by kernel_rfl
theorem of5_leaf (n : Int) (q0 : inW n = true) (q1 : inW (IntKind.i64.wrap (n * 1073741824)) = true) (q2 : (IntKind.i64.wrap ((IntKind.i64.wrap (n * 1073741824)).tdiv 1073741824) == n) = true) (hg : fineL [⟨IntKind.i64.wrap (n * 1073741824), IntKind.i64.wrap (n * 1073741824), false⟩] = true) (hr : ofI n = ⟨IntKind.i64.wrap (n * 1073741824), IntKind.i64.wrap (n * 1073741824), false⟩) : Gives P 23 #[.int .i64 n] (I (ofI n)) := by
  have R := of5_run n
  refine gives_of_run mo R (ps_cons rfl (ps_cons trivial (ps_cons q0 (ps_cons trivial (ps_cons q1 (ps_cons q2 (ps_cons (ivs_ok (by simp)) (ps_cons hg ps_nil)))))))) ?_
  rw [hr]
  all_goals rfl
theorem ofI_in {n : Int} (h1 : -1073741824 ≤ n) (h2 : n ≤ 1073741824) : ofI n = ⟨n * 1073741824, n * 1073741824, false⟩ := by
  unfold ofI; rw [decide_eq_true h1, decide_eq_true h2]; rfl
theorem ofI_out {n : Int} (h : ¬ (-1073741824 ≤ n ∧ n ≤ 1073741824)) : ofI n = bd := by
  unfold ofI
  rw [show (decide (-1073741824 ≤ n) && decide (n ≤ 1073741824)) = false by rw [← Bool.decide_and]; exact decide_eq_false h]
  rfl
theorem of_gives (args : List Value) (h : nP1 args) : Gives P 23 args.toArray ((n1V fun n => I (ofI n)) args) := by
  unfold nP1 at h
  split at h
  · rename_i n
    show Gives P _ #[.int .i64 n] (I (ofI n))
    by_cases hr : -1073741824 ≤ n ∧ n ≤ 1073741824
    · obtain ⟨h1, h2⟩ := hr
      have w : IntKind.i64.wrap (n * 1073741824) = n * 1073741824 := wr (by omega) (by omega)
      have e : (n * 1073741824).tdiv 1073741824 = n := Int.mul_tdiv_cancel n (by decide)
      refine of5_leaf n (inW_iff.2 (by omega)) (inW_iff.2 (by omega)) ?_ ?_ ?_
      · rw [w, e, wr (by omega) (by omega)]; exact beq_self_eq_true n
      · rw [w, fine1]; exact fine_iff.2 ⟨rfl, by show _ ≤ n * 1073741824; omega, Int.le_refl _, by show n * 1073741824 ≤ _; omega⟩
      · rw [w]; exact ofI_in h1 h2
    · have hb := ofI_out hr
      cases q0 : inW n with
      | false => exact of0_leaf n q0 hb
      | true =>
      cases q1 : inW (IntKind.i64.wrap (n * 1073741824)) with
      | false => exact of1_leaf n q0 q1 hb
      | true =>
      cases q2 : (IntKind.i64.wrap ((IntKind.i64.wrap (n * 1073741824)).tdiv 1073741824) == n) with
      | false => exact of2_leaf n q0 q1 q2 hb
      | true =>
      exfalso
      have t := tdiv_small (inW_iff.1 q1).1 (inW_iff.1 q1).2
      rw [wr (by omega) (by omega)] at q2
      have := eq_of_beq q2
      omega
  · exact h.elim
noncomputable def cOf : Ctr P := ⟨23, nP1, n1V fun n => I (ofI n), of_gives⟩

/-! ### Hull -/
def hk (l : Nat → Iv) : Nat → Iv
  | 0 => l 0
  | k + 1 => ⟨mn (hk l k).lo (l (k + 1)).lo, mx (hk l k).hi (l (k + 1)).hi, (hk l k).bad⟩
noncomputable def J2 : Env P := ⟨⟨[], [cFine]⟩, [], 10, []⟩
noncomputable def hb : Code := bodyOf (innerOf P 20 0)
noncomputable def hl : Code := (findLabel hb 0).getD .skip
def h0 (n : Nat) (l : Nat → Iv) : St := ⟨[(0, .row 900), (2, .ptr 1 0)], [(1, (.whole (I (⟨0, 0, false⟩)), 23))], [], [900, 1, 0], [(900, some ⟨23, 3, n, fun j => I (l j), false⟩)]⟩
def hs (n : Nat) (l : Nat → Iv) (k : Nat) : St := ⟨[(0, .row 900), (2, .ptr 1 0)], [(1, (.whole (I (hk l k)), 23))], [], [900, 1, 0], [(900, some ⟨23, 3, n - k, fun j => I (l (k + j)), false⟩)]⟩
def hz (n : Nat) (l : Nat → Iv) : St := ⟨[(0, .row 900), (2, .ptr 1 0)], [(1, (.whole (I (hk l (n - 1))), 23))], [], [900, 1, 0], [(900, some ⟨23, 3, 0, fun j => I (l j), false⟩)]⟩
theorem h0g (n : Nat) (l : Nat → Iv) (k0 : Nat) : stepF P J2 3 37 hb (h0 n l) (.b false :: (.b false :: (.b true :: []))) 1000 (fun _ => some (hs n l 1)) k0 =
  some (.goto 0, k0,
    [(((n : Nat) : Int) == 0) = false,
     fineP [.row ⟨23, 3, n, fun j => I (l j), false⟩],
     (!(fineL (rowL n fun j => I (l j)))) = false,
     0 < n,
     0 < n,
     1 ≤ n,
     n ≤ n,
     (decide (((n - 1 : Nat) : Int) > 0)) = true,
     0 < n - 1,
     0 < n - 1,
     0 < n - 1,
     0 < n - 1,
     (.row 1013 : SV) = .row 1013,
     (.ptr 1 0 : SV) = .ptr 1 0,
     (.int .i64 (if (l 1).lo < (l 0).lo then (l 1).lo else (l 0).lo) : Value) = .int .i64 ((hk l 1).lo),
     (.int .i64 (if (l 1).hi > (l 0).hi then (l 1).hi else (l 0).hi) : Value) = .int .i64 ((hk l 1).hi),
     (.bool ((l 0).bad) : Value) = .bool ((hk l 1).bad),
     n - 1 = n - 1,
     ∀ j, j < n - 1 → I (l (1 + j)) = I (l (1 + j))]) := by kernel_rfl
theorem h0z (n : Nat) (l : Nat → Iv) (k0 : Nat) : stepF P J2 3 37 hb (h0 n l) (.b false :: (.b false :: (.b false :: []))) 1000 (fun _ => some (hz n l)) k0 =
  some (.ret, k0,
    [(((n : Nat) : Int) == 0) = false,
     fineP [.row ⟨23, 3, n, fun j => I (l j), false⟩],
     (!(fineL (rowL n fun j => I (l j)))) = false,
     0 < n,
     0 < n,
     1 ≤ n,
     n ≤ n,
     (decide (((n - 1 : Nat) : Int) > 0)) = false,
     (.row 1013 : SV) = .row 1013,
     (.ptr 1 0 : SV) = .ptr 1 0,
     (I (l 0) : Value) = I (hk l (n - 1)),
     n - 1 = 0,
     ∀ j, j < 0 → I (l (1 + j)) = I (l j)]) := by kernel_rfl
theorem hsg (n : Nat) (l : Nat → Iv) (k : Nat) (k0 : Nat) : stepF P J2 3 37 hl (hs n l k) (.b true :: []) 1000 (fun _ => some (hs n l (k + 1))) k0 =
  some (.goto 0, k0,
    [1 ≤ n - k,
     n - k ≤ n - k,
     (decide (((n - k - 1 : Nat) : Int) > 0)) = true,
     0 < n - k - 1,
     0 < n - k - 1,
     0 < n - k - 1,
     0 < n - k - 1,
     (.row 1001 : SV) = .row 1001,
     (.ptr 1 0 : SV) = .ptr 1 0,
     (.int .i64 (if (l (k + 1)).lo < (hk l k).lo then (l (k + 1)).lo else (hk l k).lo) : Value) = .int .i64 ((hk l (k + 1)).lo),
     (.int .i64 (if (l (k + 1)).hi > (hk l k).hi then (l (k + 1)).hi else (hk l k).hi) : Value) = .int .i64 ((hk l (k + 1)).hi),
     (.bool ((hk l k).bad) : Value) = .bool ((hk l (k + 1)).bad),
     n - k - 1 = n - (k + 1),
     ∀ j, j < n - (k + 1) → I (l (k + (1 + j))) = I (l (k + 1 + j))]) := by kernel_rfl
theorem hsz (n : Nat) (l : Nat → Iv) (k : Nat) (k0 : Nat) : stepF P J2 3 37 hl (hs n l k) (.b false :: []) 1000 (fun _ => some (hz n l)) k0 =
  some (.ret, k0,
    [1 ≤ n - k,
     n - k ≤ n - k,
     (decide (((n - k - 1 : Nat) : Int) > 0)) = false,
     (.row 1001 : SV) = .row 1001,
     (.ptr 1 0 : SV) = .ptr 1 0,
     (I (hk l k) : Value) = I (hk l (n - 1)),
     n - k - 1 = 0,
     ∀ j, j < 0 → I (l (k + (1 + j))) = I (l j)]) := by kernel_rfl
theorem n0 {n : Nat} (h : 1 ≤ n) : (((n : Nat) : Int) == 0) = false := by rw [beq_eq_false_iff_ne]; omega
noncomputable def hullS (n : Nat) (l : Nat → Iv) (hn : n ≤ 1000000) (h1 : 1 ≤ n) (hf : fineL (rowL n fun j => I (l j)) = true) : CodeC P :=
  scopeC mo J2 (by rfl) 3 37 hb hl 0 (by kernel_rfl) [900, 1, 0] (h0 n l) (hs n l) (fun k => 1 ≤ k ∧ k < n) (fun k => n - k) .ret (hz n l) (by simp) rfl (fun _ => rfl) rfl (by kernel_rfl) (fun _ => by kernel_rfl) (by kernel_rfl) [900] rfl (fun _ => rfl) rfl
    (by
      by_cases h2 : 1 < n
      · exact step_run (h0g n l) (ps_cons (n0 (by omega)) (ps_cons ⟨rfl, rfl, hn, fun j _ => ⟨_, rfl⟩⟩ (ps_cons (neg_f hf) (ps_cons (by omega) (ps_cons (by omega) (ps_cons (by omega) (ps_cons (by omega) (ps_cons (decide_eq_true (by omega)) (ps_cons (by omega) (ps_cons (by omega) (ps_cons (by omega) (ps_cons (by omega) (ps_cons rfl (ps_cons rfl (ps_cons rfl (ps_cons rfl (ps_cons rfl (ps_cons (by omega) (ps_cons (fun _ _ => rfl) ps_nil))))))))))))))))))) rfl fun S1 hk => .inl ⟨rfl, 1, ⟨Nat.le_refl _, h2⟩, hk⟩
      · exact step_run (h0z n l) (ps_cons (n0 (by omega)) (ps_cons ⟨rfl, rfl, hn, fun j _ => ⟨_, rfl⟩⟩ (ps_cons (neg_f hf) (ps_cons (by omega) (ps_cons (by omega) (ps_cons (by omega) (ps_cons (by omega) (ps_cons (decide_eq_false (by omega)) (ps_cons rfl (ps_cons rfl (ps_cons (by rw [show n - 1 = 0 by omega]; rfl) (ps_cons (by omega) (ps_cons (fun j hj => absurd hj (Nat.not_lt_zero j)) ps_nil))))))))))))) rfl fun S1 hk => .inr ⟨rfl, hk⟩)
    (fun k hk => by
      obtain ⟨k1, k2⟩ := hk
      by_cases h2 : k + 1 < n
      · exact step_run (hsg n l k) (ps_cons (by omega) (ps_cons (by omega) (ps_cons (decide_eq_true (by omega)) (ps_cons (by omega) (ps_cons (by omega) (ps_cons (by omega) (ps_cons (by omega) (ps_cons rfl (ps_cons rfl (ps_cons rfl (ps_cons rfl (ps_cons rfl (ps_cons (by omega) (ps_cons (fun j _ => by rw [Nat.add_assoc]) ps_nil)))))))))))))) rfl fun S1 hk => .inl ⟨rfl, k + 1, ⟨by omega, h2⟩, by omega, hk⟩
      · exact step_run (hsz n l k) (ps_cons (by omega) (ps_cons (by omega) (ps_cons (decide_eq_false (by omega)) (ps_cons rfl (ps_cons rfl (ps_cons (by rw [show n - 1 = k by omega]) (ps_cons (by omega) (ps_cons (fun j hj => absurd hj (Nat.not_lt_zero j)) ps_nil)))))))) rfl fun S1 hk => .inr ⟨rfl, hk⟩)
noncomputable def J3 (n : Nat) (l : Nat → Iv) (hn : n ≤ 1000000) (h1 : 1 ≤ n) (hf : fineL (rowL n fun j => I (l j)) = true) : Env P := ⟨⟨[], []⟩, [hullS n l hn h1 hf], 10, []⟩
theorem hullN_run  : runD P J2 2 20 [.v (.slice none 0 0)] [] =
  some (I (⟨0, 0, true⟩),
    []) := by kernel_rfl
theorem hullZ_run (n : Nat) (el : Nat → Value) : runD P J2 2 20 [.row ⟨23, 3, n, el, false⟩] (.lit :: (.b true :: [])) =
  some (I (⟨0, 0, true⟩),
    [(((n : Nat) : Int) == 0) = true]) := by kernel_rfl
theorem hullB_run (n : Nat) (el : Nat → Value) : runD P J2 2 20 [.row ⟨23, 3, n, el, false⟩] (.lit :: (.b false :: (.b true :: []))) =
  some (I (⟨0, 0, true⟩),
    [(((n : Nat) : Int) == 0) = false,
     fineP [.row ⟨23, 3, n, el, false⟩],
     (!(fineL (rowL n el))) = true]) := by kernel_rfl
theorem hullG_run (n : Nat) (el : Nat → Value) (l : Nat → Iv) (hn : n ≤ 1000000) (h1 : 1 ≤ n) (hf : fineL (rowL n fun j => I (l j)) = true) : runD P (J3 n l hn h1 hf) 1 20 [.row ⟨23, 3, n, el, false⟩] (.n 0 :: []) =
  some (I (hk l (n - 1)),
    [Code.scope hb = innerOf P 20 0,
     (.row 0 : SV) = .row 0,
     (.ptr 1 0 : SV) = .ptr 1 0,
     (I (⟨0, 0, false⟩) : Value) = I (⟨0, 0, false⟩),
     n = n,
     ∀ j, j < n → el j = I (l j)]) := by kernel_rfl
theorem hull_hk (l : Nat → Iv) : ∀ (m k : Nat) (el : Nat → Value), (∀ j, rd (el j) = l (k + 1 + j)) → hullF (hk l k) (rowL m el) = hk l (k + m)
  | 0, _, _, _ => rfl
  | m + 1, k, el, h => by
    have ih := hull_hk l m (k + 1) (fun j => el (j + 1)) fun j => by
      show rd (el (j + 1)) = _
      rw [h, show k + 1 + (j + 1) = k + 1 + 1 + j by omega]
    show hullF ⟨mn (hk l k).lo (rd (el 0)).lo, mx (hk l k).hi (rd (el 0)).hi, (hk l k).bad⟩ (rowL m fun j => el (j + 1)) = _
    rw [h 0, show k + (m + 1) = k + 1 + m by omega, ← ih]
    rfl
theorem rowL_same : ∀ (n : Nat) (el el2 : Nat → Value), (∀ j, j < n → rd (el j) = rd (el2 j)) → rowL n el = rowL n el2
  | 0, _, _, _ => rfl
  | n + 1, el, el2, h => by
    show rd (el 0) :: rowL n (fun j => el (j + 1)) = rd (el2 0) :: rowL n (fun j => el2 (j + 1))
    rw [h 0 (by omega), rowL_same n _ _ fun j hj => h (j + 1) (by omega)]
def hullV : List DV → Value
  | [d] => I (hullI (dvL d))
  | _ => undef
theorem hull_gives (ds : List DV) (h : fineP ds) : GivesD P 20 ds (hullV ds) := by
  unfold fineP at h
  split at h
  · rename_i q
    obtain ⟨ty, sz, n, el, own⟩ := q
    obtain ⟨rfl, rfl, hn, h⟩ := h
    refine alien_dv ?_
    simp only at hn h
    show GivesD P _ [.row ⟨23, 3, n, el, false⟩] (I (hullI (rowL n el)))
    by_cases h0 : n = 0
    · subst h0
      exact givesD_of_run mo (hullZ_run 0 el) (ps_cons rfl ps_nil) rfl
    cases hf : fineL (rowL n el) with
    | false =>
      refine givesD_of_run mo (hullB_run n el) (ps_cons (n0 (by omega)) (ps_cons ⟨rfl, rfl, hn, h⟩ (ps_cons (neg_t hf) ps_nil))) ?_
      obtain ⟨m, rfl⟩ : ∃ m, n = m + 1 := ⟨n - 1, by omega⟩
      show _ = I (bif fineL (rowL (m + 1) el) then _ else bd)
      rw [hf]
      rfl
    | true =>
      have hel : ∀ j, j < n → el j = I (rd (el j)) := fun j hj => by obtain ⟨a, ha⟩ := h j hj; rw [ha]; rfl
      have hs : rowL n el = rowL n fun j => I (rd (el j)) := rowL_same n _ _ fun j _ => rfl
      refine givesD_of_run mo (hullG_run n el (fun j => rd (el j)) hn (by omega) (by rw [← hs]; exact hf)) (ps_cons (by kernel_rfl) (ps_cons rfl (ps_cons rfl (ps_cons rfl (ps_cons rfl (ps_cons hel ps_nil)))))) ?_
      obtain ⟨m, rfl⟩ : ∃ m, n = m + 1 := ⟨n - 1, by omega⟩
      show _ = I (bif fineL (rowL (m + 1) el) then hullF (rd (el 0)) (rowL m fun j => el (j + 1)) else bd)
      rw [hf]
      have := hull_hk (fun j => rd (el j)) m 0 (fun j => el (j + 1)) fun j => by
        show rd (el (j + 1)) = rd (el (0 + 1 + j))
        rw [show 0 + 1 + j = j + 1 by omega]
      show _ = I (hullF (hk (fun j => rd (el j)) 0) (rowL m fun j => el (j + 1)))
      rw [this, Nat.zero_add, Nat.add_sub_cancel]
  · subst h
    exact givesD_of_run mo hullN_run ps_nil rfl
  · exact h.elim
noncomputable def cHull : CtrD P := ⟨20, fineP, hullV, hull_gives⟩
noncomputable def J4 : Env P := ⟨⟨[], [cFine, cHull]⟩, [], 10, []⟩
theorem holds0_run (a b : Iv) : runF P J4 1 21 [I a, I b] (.lit :: (.b false :: [])) =
  some (.bool false,
    [fineP [ivs [a, b]],
     (fineL [a, b]) = false]) := by kernel_rfl
theorem holds0_leaf (a b : Iv) (hf : fineL [a, b] = false) : Gives P 21 #[I a, I b] (.bool (holdsI a b)) := by
  have R := holds0_run a b
  refine gives_of_run mo R (ps_cons (ivs_ok (by simp)) (ps_cons hf ps_nil)) ?_
  unfold holdsI
  rw [hf]
  rfl
theorem holds_hull {a b : Iv} (hf : fineL [a, b] = true) : (((hullI [a, b]).lo == a.lo) && (((hullI [a, b]).hi == a.hi) && ((hullI [a, b]).bad == a.bad))) = holdsI a b := by
  have e : hullI [a, b] = ⟨mn a.lo b.lo, mx a.hi b.hi, a.bad⟩ := by
    show (bif fineL [a, b] then _ else _) = _
    rw [hf]; rfl
  unfold holdsI
  rw [e, hf, Bool.eq_iff_iff]
  simp only [Bool.and_eq_true, beq_iff_eq, decide_eq_true_eq, true_and, and_true]
  unfold mn mx
  constructor
  · rintro ⟨h1, h2⟩
    split at h1 <;> split at h2 <;> omega
  · rintro ⟨h1, h2⟩
    rw [if_neg (by omega), if_neg (by omega)]
    exact ⟨rfl, rfl⟩
theorem holds1_run (a b : Iv) : runF P J4 1 21 [I a, I b] (.lit :: (.b true :: [])) =
  some (.bool (((hullI [a, b]).lo == a.lo) && (((hullI [a, b]).hi == a.hi) && (((hullI [a, b]).bad) == a.bad))),
    [fineP [ivs [a, b]],
     (fineL [a, b]) = true,
     fineP [ivs [a, b]]]) := by kernel_rfl
theorem holds1_leaf (a b : Iv) (hf : fineL [a, b] = true) : Gives P 21 #[I a, I b] (.bool (holdsI a b)) := by
  have R := holds1_run a b
  refine gives_of_run mo R (ps_cons (ivs_ok (by simp)) (ps_cons hf (ps_cons (ivs_ok (by simp)) ps_nil))) ?_
  rw [holds_hull hf]
theorem holds_gives (args : List Value) (h : iP2 args) : Gives P 21 args.toArray ((two2 fun a b => .bool (holdsI a b)) args) := by
  unfold iP2 at h
  split at h
  · obtain ⟨⟨a, rfl⟩, b, rfl⟩ := h
    show Gives P _ #[I a, I b] (.bool (holdsI a b))
    cases hf : fineL [a, b] with
    | false => exact holds0_leaf a b hf
    | true => exact holds1_leaf a b hf
  · exact h.elim
noncomputable def cHolds : Ctr P := ⟨21, iP2, two2 fun a b => .bool (holdsI a b), holds_gives⟩
noncomputable def ivalC : List (Ctr P) := [cAdd, cSub, cMeet, cNeg, cPoint, cMake, cOf, cWidth, cMul, cPart, cHolds]
noncomputable def ivalD : List (CtrD P) := [cFine, cHull]
end Go.Iv
