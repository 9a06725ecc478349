/-
  ival.Fine over any row. Printed by ivB.py.
-/
import Derived.Test.YtjfcndiodbaejaaDoorIvA
set_option maxRecDepth 100000
namespace Go.Iv
open Go Go.RowKit Go.Sx Go.Nm Go.Wd Go.Qt Go.Proofs

noncomputable def V0 : Env P := ⟨⟨[], []⟩, [], 10, []⟩
noncomputable def xb : Code := bodyOf (innerOf P 83 0)
def xs (n : Nat) (l : Nat → Iv) (i : Nat) : St := ⟨[(8, .v (.int .i64 (i : Int))), (7, .v (.int .i64 (n : Int))), (4, .v (.int .i64 0)), (1, .fn 56 []), (0, .row 900)], [], [], [900, 0], [(900, some ⟨23, 3, n, fun j => I (l j), false⟩)]⟩
def xf (n : Nat) (l : Nat → Iv) (i : Nat) : St := ⟨[(4, .v (.int .i64 (i : Int)))], [], [], [900, 0], [(900, some ⟨23, 3, n, fun j => I (l j), false⟩)]⟩
def xz (n : Nat) (l : Nat → Iv) : St := ⟨[(4, .v (.int .i64 0))], [], [], [900, 0], [(900, some ⟨23, 3, n, fun j => I (l j), false⟩)]⟩
theorem xrE (n : Nat) (l : Nat → Iv) (i : Nat) (k : Nat) : stepF P V0 3 19 xb (xs n l i) (.b false :: []) 1000 (fun _ => some (xz n l)) k =
  some (.exit 0, k,
    [(decide ((i : Int) < (n : Int))) = false,
     (.int .i64 0 : Value) = .int .i64 0,
     n = n,
     ∀ j, j < n → I (l j) = I (l j)]) := by kernel_rfl
theorem xrO (n : Nat) (l : Nat → Iv) (i : Nat) (k : Nat) : stepF P V0 3 19 xb (xs n l i) (.b true :: (.n i :: (.b false :: (.b true :: (.b false :: (.b true :: (.b false :: (.b false :: [])))))))) 1000 (fun _ => some (xs n l (i + 1))) k =
  some (.normal, k,
    [(decide ((i : Int) < (n : Int))) = true,
     (i : Int) = ↑i,
     i < n,
     i < n,
     ((l i).bad) = false,
     (decide ((l i).lo ≥ -1152921504606846976)) = true,
     (!(decide ((l i).lo ≤ 1152921504606846976))) = false,
     (decide ((l i).hi ≥ -1152921504606846976)) = true,
     (!(decide ((l i).hi ≤ 1152921504606846976))) = false,
     (decide ((l i).lo > (l i).hi)) = false,
     (.int .i64 (IntKind.i64.wrap ((i : Int) + 1)) : Value) = .int .i64 ((i + 1 : Nat) : Int),
     (.int .i64 (n : Int) : Value) = .int .i64 (n : Int),
     (.int .i64 0 : Value) = .int .i64 0,
     (.fn 56 [] : SV) = .fn 56 [],
     (.row 900 : SV) = .row 900,
     n = n,
     ∀ j, j < n → I (l j) = I (l j)]) := by kernel_rfl
theorem xr0 (n : Nat) (l : Nat → Iv) (i : Nat) (k : Nat) : stepF P V0 3 19 xb (xs n l i) (.b true :: (.n i :: (.b true :: []))) 1000 (fun _ => some (xf n l i)) k =
  some (.ret, k,
    [(decide ((i : Int) < (n : Int))) = true,
     (i : Int) = ↑i,
     i < n,
     i < n,
     ((l i).bad) = true,
     (.int .i64 (i : Int) : Value) = .int .i64 (i : Int),
     n = n,
     ∀ j, j < n → I (l j) = I (l j)]) := by kernel_rfl
theorem xr1 (n : Nat) (l : Nat → Iv) (i : Nat) (k : Nat) : stepF P V0 3 19 xb (xs n l i) (.b true :: (.n i :: (.b false :: (.b false :: [])))) 1000 (fun _ => some (xf n l i)) k =
  some (.ret, k,
    [(decide ((i : Int) < (n : Int))) = true,
     (i : Int) = ↑i,
     i < n,
     i < n,
     ((l i).bad) = false,
     (decide ((l i).lo ≥ -1152921504606846976)) = false,
     (.int .i64 (i : Int) : Value) = .int .i64 (i : Int),
     n = n,
     ∀ j, j < n → I (l j) = I (l j)]) := by kernel_rfl
theorem xr2 (n : Nat) (l : Nat → Iv) (i : Nat) (k : Nat) : stepF P V0 3 19 xb (xs n l i) (.b true :: (.n i :: (.b false :: (.b true :: (.b true :: []))))) 1000 (fun _ => some (xf n l i)) k =
  some (.ret, k,
    [(decide ((i : Int) < (n : Int))) = true,
     (i : Int) = ↑i,
     i < n,
     i < n,
     ((l i).bad) = false,
     (decide ((l i).lo ≥ -1152921504606846976)) = true,
     (!(decide ((l i).lo ≤ 1152921504606846976))) = true,
     (.int .i64 (i : Int) : Value) = .int .i64 (i : Int),
     n = n,
     ∀ j, j < n → I (l j) = I (l j)]) := by kernel_rfl
theorem xr3 (n : Nat) (l : Nat → Iv) (i : Nat) (k : Nat) : stepF P V0 3 19 xb (xs n l i) (.b true :: (.n i :: (.b false :: (.b true :: (.b false :: (.b false :: [])))))) 1000 (fun _ => some (xf n l i)) k =
  some (.ret, k,
    [(decide ((i : Int) < (n : Int))) = true,
     (i : Int) = ↑i,
     i < n,
     i < n,
     ((l i).bad) = false,
     (decide ((l i).lo ≥ -1152921504606846976)) = true,
     (!(decide ((l i).lo ≤ 1152921504606846976))) = false,
     (decide ((l i).hi ≥ -1152921504606846976)) = false,
     (.int .i64 (i : Int) : Value) = .int .i64 (i : Int),
     n = n,
     ∀ j, j < n → I (l j) = I (l j)]) := by kernel_rfl
theorem xr4 (n : Nat) (l : Nat → Iv) (i : Nat) (k : Nat) : stepF P V0 3 19 xb (xs n l i) (.b true :: (.n i :: (.b false :: (.b true :: (.b false :: (.b true :: (.b true :: []))))))) 1000 (fun _ => some (xf n l i)) k =
  some (.ret, k,
    [(decide ((i : Int) < (n : Int))) = true,
     (i : Int) = ↑i,
     i < n,
     i < n,
     ((l i).bad) = false,
     (decide ((l i).lo ≥ -1152921504606846976)) = true,
     (!(decide ((l i).lo ≤ 1152921504606846976))) = false,
     (decide ((l i).hi ≥ -1152921504606846976)) = true,
     (!(decide ((l i).hi ≤ 1152921504606846976))) = true,
     (.int .i64 (i : Int) : Value) = .int .i64 (i : Int),
     n = n,
     ∀ j, j < n → I (l j) = I (l j)]) := by kernel_rfl
theorem xr5 (n : Nat) (l : Nat → Iv) (i : Nat) (k : Nat) : stepF P V0 3 19 xb (xs n l i) (.b true :: (.n i :: (.b false :: (.b true :: (.b false :: (.b true :: (.b false :: (.b true :: [])))))))) 1000 (fun _ => some (xf n l i)) k =
  some (.ret, k,
    [(decide ((i : Int) < (n : Int))) = true,
     (i : Int) = ↑i,
     i < n,
     i < n,
     ((l i).bad) = false,
     (decide ((l i).lo ≥ -1152921504606846976)) = true,
     (!(decide ((l i).lo ≤ 1152921504606846976))) = false,
     (decide ((l i).hi ≥ -1152921504606846976)) = true,
     (!(decide ((l i).hi ≤ 1152921504606846976))) = false,
     (decide ((l i).lo > (l i).hi)) = true,
     (.int .i64 (i : Int) : Value) = .int .i64 (i : Int),
     n = n,
     ∀ j, j < n → I (l j) = I (l j)]) := by kernel_rfl

theorem not_t {p : Prop} [Decidable p] (h : ¬ p) : (!(decide p)) = true := by rw [decide_eq_false h]; rfl
theorem not_f {p : Prop} [Decidable p] (h : p) : (!(decide p)) = false := by rw [decide_eq_true h]; rfl
theorem x_ok {n : Nat} {l : Nat → Iv} {i : Nat} (hn : n ≤ 1000000) (hi : i < n) (h : fine (l i) = true) {good : Out → St → Prop} (hg : ∀ S1, Keeps S1 (xs n l (i + 1)) → good .normal S1) : StepTo P V0 3 19 xb (xs n l i) good := by
  obtain ⟨hb, h1, h2, h3⟩ := fine_iff.1 h
  have hw : (.int .i64 (IntKind.i64.wrap ((i : Int) + 1)) : Value) = .int .i64 ((i + 1 : Nat) : Int) := by rw [wrap_i64_in (by omega) (by omega)]; rfl
  exact step_run (xrO n l i) (ps_cons (decide_eq_true (by omega)) (ps_cons rfl (ps_cons hi (ps_cons hi (ps_cons hb (ps_cons (decide_eq_true (by omega)) (ps_cons (not_f (by omega)) (ps_cons (decide_eq_true (by omega)) (ps_cons (not_f (by omega)) (ps_cons (decide_eq_false (by omega)) (ps_cons hw (ps_cons rfl (ps_cons rfl (ps_cons rfl (ps_cons rfl (ps_cons rfl (ps_cons (fun _ _ => rfl) ps_nil))))))))))))))))) rfl hg
theorem x_end {n : Nat} {l : Nat → Iv} {i : Nat} (hi : n ≤ i) {good : Out → St → Prop} (hg : ∀ S1, Keeps S1 (xz n l) → good (.exit 0) S1) : StepTo P V0 3 19 xb (xs n l i) good := by
  exact step_run (xrE n l i) (ps_cons (decide_eq_false (by omega)) (ps_cons rfl (ps_cons rfl (ps_cons (fun _ _ => rfl) ps_nil)))) rfl hg
theorem x_bad {n : Nat} {l : Nat → Iv} {i : Nat} (hi : i < n) (h : fine (l i) = false) {good : Out → St → Prop} (hg : ∀ S1, Keeps S1 (xf n l i) → good .ret S1) : StepTo P V0 3 19 xb (xs n l i) good := by
  cases hb : (l i).bad with
  | true => exact step_run (xr0 n l i) (ps_cons (decide_eq_true (by omega)) (ps_cons rfl (ps_cons hi (ps_cons hi (ps_cons hb (ps_cons rfl (ps_cons rfl (ps_cons (fun _ _ => rfl) ps_nil)))))))) rfl hg
  | false =>
    by_cases h1 : (l i).lo ≥ -1152921504606846976
    · by_cases h2 : (l i).lo ≤ 1152921504606846976
      · by_cases h3 : (l i).hi ≥ -1152921504606846976
        · by_cases h4 : (l i).hi ≤ 1152921504606846976
          · by_cases h5 : (l i).lo > (l i).hi
            · exact step_run (xr5 n l i) (ps_cons (decide_eq_true (by omega)) (ps_cons rfl (ps_cons hi (ps_cons hi (ps_cons hb (ps_cons (decide_eq_true (by omega)) (ps_cons (not_f (by omega)) (ps_cons (decide_eq_true (by omega)) (ps_cons (not_f (by omega)) (ps_cons (decide_eq_true (by omega)) (ps_cons rfl (ps_cons rfl (ps_cons (fun _ _ => rfl) ps_nil))))))))))))) rfl hg
            · exfalso
              rw [fine_iff.2 ⟨hb, h1, by omega, h4⟩] at h
              cases h
          · exact step_run (xr4 n l i) (ps_cons (decide_eq_true (by omega)) (ps_cons rfl (ps_cons hi (ps_cons hi (ps_cons hb (ps_cons (decide_eq_true (by omega)) (ps_cons (not_f (by omega)) (ps_cons (decide_eq_true (by omega)) (ps_cons (not_t (by omega)) (ps_cons rfl (ps_cons rfl (ps_cons (fun _ _ => rfl) ps_nil)))))))))))) rfl hg
        · exact step_run (xr3 n l i) (ps_cons (decide_eq_true (by omega)) (ps_cons rfl (ps_cons hi (ps_cons hi (ps_cons hb (ps_cons (decide_eq_true (by omega)) (ps_cons (not_f (by omega)) (ps_cons (decide_eq_false (by omega)) (ps_cons rfl (ps_cons rfl (ps_cons (fun _ _ => rfl) ps_nil))))))))))) rfl hg
      · exact step_run (xr2 n l i) (ps_cons (decide_eq_true (by omega)) (ps_cons rfl (ps_cons hi (ps_cons hi (ps_cons hb (ps_cons (decide_eq_true (by omega)) (ps_cons (not_t (by omega)) (ps_cons rfl (ps_cons rfl (ps_cons (fun _ _ => rfl) ps_nil)))))))))) rfl hg
    · exact step_run (xr1 n l i) (ps_cons (decide_eq_true (by omega)) (ps_cons rfl (ps_cons hi (ps_cons hi (ps_cons hb (ps_cons (decide_eq_false (by omega)) (ps_cons rfl (ps_cons rfl (ps_cons (fun _ _ => rfl) ps_nil))))))))) rfl hg
noncomputable def xAll (n : Nat) (l : Nat → Iv) (hn : n ≤ 1000000) (h : ∀ j, j < n → fine (l j) = true) : CodeC P :=
  loopC mo V0 (by rfl) 3 19 xb [900, 0] (xs n l) (fun i => i ≤ n) (fun i => n - i) (.exit 0) (xz n l) (by simp) (fun _ => rfl) rfl (fun _ => by kernel_rfl) (by kernel_rfl) [900] (fun _ => rfl) rfl
    (fun i hi => by
      by_cases hlt : i < n
      · exact x_ok hn hlt (h i hlt) fun S1 hk => .inl ⟨rfl, i + 1, by omega, by omega, hk⟩
      · exact x_end (by omega) fun S1 hk => .inr ⟨rfl, hk⟩) 0 (Nat.zero_le _)
noncomputable def xOne (n : Nat) (l : Nat → Iv) (hn : n ≤ 1000000) (k : Nat) (hk : k < n) (h : ∀ j, j < k → fine (l j) = true) (hf : fine (l k) = false) : CodeC P :=
  loopC mo V0 (by rfl) 3 19 xb [900, 0] (xs n l) (fun i => i ≤ k) (fun i => n - i) .ret (xf n l k) (by simp) (fun _ => rfl) rfl (fun _ => by kernel_rfl) (by kernel_rfl) [900] (fun _ => rfl) rfl
    (fun i hi => by
      by_cases hlt : i < k
      · exact x_ok hn (by omega) (h i hlt) fun S1 hk => .inl ⟨rfl, i + 1, by omega, by omega, hk⟩
      · have : i = k := by omega
        subst this
        exact x_bad hk hf fun S1 hk => .inr ⟨rfl, hk⟩) 0 (Nat.zero_le _)
noncomputable def VA (n : Nat) (l : Nat → Iv) (hn : n ≤ 1000000) (h : ∀ j, j < n → fine (l j) = true) : Env P := ⟨⟨[], []⟩, [xAll n l hn h], 10, []⟩
noncomputable def VO (n : Nat) (l : Nat → Iv) (hn : n ≤ 1000000) (k : Nat) (hk : k < n) (h : ∀ j, j < k → fine (l j) = true) (hf : fine (l k) = false) : Env P := ⟨⟨[], []⟩, [xOne n l hn k hk h hf], 10, []⟩
theorem fineA_run (n : Nat) (el : Nat → Value) (l : Nat → Iv) (hn : n ≤ 1000000) (h : ∀ j, j < n → fine (l j) = true) : runD P (VA n l hn h) 3 25 [.row ⟨23, 3, n, el, false⟩] (.n 0 :: []) =
  some (.bool true,
    [Code.loop xb = innerOf P 83 0,
     (.int .i64 0 : Value) = .int .i64 ((0 : Nat) : Int),
     (.int .i64 (↑n) : Value) = .int .i64 (n : Int),
     (.int .i64 0 : Value) = .int .i64 0,
     (.fn 56 [] : SV) = .fn 56 [],
     (.row 0 : SV) = .row 0,
     n = n,
     ∀ j, j < n → el j = I (l j)]) := by kernel_rfl
theorem fineO_run (n : Nat) (el : Nat → Value) (l : Nat → Iv) (hn : n ≤ 1000000) (k : Nat) (hk : k < n) (h : ∀ j, j < k → fine (l j) = true) (hf : fine (l k) = false) : runD P (VO n l hn k hk h hf) 3 25 [.row ⟨23, 3, n, el, false⟩] (.n 0 :: []) =
  some (.bool (!(decide ((k : Int) ≥ 0))),
    [Code.loop xb = innerOf P 83 0,
     (.int .i64 0 : Value) = .int .i64 ((0 : Nat) : Int),
     (.int .i64 (↑n) : Value) = .int .i64 (n : Int),
     (.int .i64 0 : Value) = .int .i64 0,
     (.fn 56 [] : SV) = .fn 56 [],
     (.row 0 : SV) = .row 0,
     n = n,
     ∀ j, j < n → el j = I (l j)]) := by kernel_rfl
theorem fineN_run  : runD P V0 3 25 [.v (.slice none 0 0)] [] =
  some (.bool true,
    []) := by kernel_rfl

def fineP : List DV → Prop
  | [.row q] => q.ty = 23 ∧ q.sz = 3 ∧ q.n ≤ 1000000 ∧ ∀ j, j < q.n → ∃ a, q.el j = I a
  | [.v x] => x = .slice none 0 0
  | _ => False
def fineV : List DV → Value
  | [d] => .bool (fineL (dvL d))
  | _ => undef
theorem alien_dv {f : FuncId} {q : RowS} {v : Value} (h : GivesD P f [.row { q with own := false }] v) : GivesD P f [.row q] v := fun F n o a W K Q args h1 h2 h3 h4 h5 h6 =>
  h F n o a W K Q args h1 h2 h3 h4 (by cases args with
    | nil => exact h5
    | cons x r => exact h5) h6
theorem first_bad (l : Nat → Iv) : ∀ n, (∃ j, j < n ∧ fine (l j) = false) → ∃ k, k < n ∧ (∀ j, j < k → fine (l j) = true) ∧ fine (l k) = false
  | 0, ⟨j, h, _⟩ => absurd h (Nat.not_lt_zero j)
  | n + 1, ⟨j, h1, h2⟩ => by
    by_cases h : ∃ j, j < n ∧ fine (l j) = false
    · obtain ⟨k, k1, k2, k3⟩ := first_bad l n h
      exact ⟨k, by omega, k2, k3⟩
    · have hall : ∀ i, i < n → fine (l i) = true := fun i hi => by
        cases hf : fine (l i) with
        | true => rfl
        | false => exact absurd ⟨i, hi, hf⟩ h
      have : j = n := by
        rcases Nat.lt_or_ge j n with hj | hj
        · rw [hall j hj] at h2; cases h2
        · omega
      subst this
      exact ⟨j, by omega, hall, h2⟩
theorem fine_gives (ds : List DV) (h : fineP ds) : GivesD P 25 ds (fineV ds) := by
  unfold fineP at h
  split at h
  · rename_i q
    obtain ⟨ty, sz, n, el, own⟩ := q
    obtain ⟨rfl, rfl, hn, h⟩ := h
    refine alien_dv ?_
    simp only at hn h
    have hel : ∀ j, j < n → el j = I (rd (el j)) := fun j hj => by obtain ⟨a, ha⟩ := h j hj; rw [ha]; rfl
    show GivesD P _ [.row ⟨23, 3, n, el, false⟩] (.bool (fineL (rowL n el)))
    cases hf : fineL (rowL n el) with
    | true => exact givesD_of_run mo (fineA_run n el (fun j => rd (el j)) hn (rowL_get.1 hf)) (ps_cons (by kernel_rfl) (ps_cons rfl (ps_cons rfl (ps_cons rfl (ps_cons rfl (ps_cons rfl (ps_cons rfl (ps_cons hel ps_nil)))))))) rfl
    | false =>
      have : ∃ j, j < n ∧ fine (rd (el j)) = false := Classical.byContradiction fun hno => by
        rw [rowL_get.2 fun j hj => by
          cases hg : fine (rd (el j)) with
          | true => rfl
          | false => exact absurd ⟨j, hj, hg⟩ hno] at hf
        cases hf
      obtain ⟨k, k1, k2, k3⟩ := first_bad (fun j => rd (el j)) n this
      exact givesD_of_run mo (fineO_run n el (fun j => rd (el j)) hn k k1 k2 k3) (ps_cons (by kernel_rfl) (ps_cons rfl (ps_cons rfl (ps_cons rfl (ps_cons rfl (ps_cons rfl (ps_cons rfl (ps_cons hel ps_nil)))))))) (by rw [decide_eq_true (by omega)]; rfl)
  · subst h
    exact givesD_of_run mo fineN_run ps_nil rfl
  · exact h.elim
noncomputable def cFine : CtrD P := ⟨25, fineP, fineV, fine_gives⟩

/-! ### Slices of intervals, told -/
def cells3 : List Iv → List Value
  | [] => []
  | a :: l => .int .i64 a.lo :: .int .i64 a.hi :: .bool a.bad :: cells3 l
def ivs (l : List Iv) : DV := .row ⟨23, 3, l.length, fun j => .agg (((cells3 l).drop (0 + j * 3)).take 3).toArray, false⟩
theorem cells3_drop : ∀ (l : List Iv) (j : Nat) (h : j < l.length), (((cells3 l).drop (0 + j * 3)).take 3) = [.int .i64 l[j].lo, .int .i64 l[j].hi, .bool l[j].bad]
  | [], j, h => absurd h (Nat.not_lt_zero j)
  | a :: l, 0, _ => rfl
  | a :: l, j + 1, h => by
    have ih := cells3_drop l j (Nat.lt_of_succ_lt_succ h)
    have e : 0 + (j + 1) * 3 = (0 + j * 3) + 1 + 1 + 1 := by omega
    rw [e]
    exact ih
theorem ivs_ok {l : List Iv} (h : l.length ≤ 1000000) : fineP [ivs l] := by
  refine ⟨rfl, rfl, h, fun j hj => ⟨l[j]'hj, ?_⟩⟩
  show Value.agg (((cells3 l).drop (0 + j * 3)).take 3).toArray = _
  rw [cells3_drop l j hj]
end Go.Iv
