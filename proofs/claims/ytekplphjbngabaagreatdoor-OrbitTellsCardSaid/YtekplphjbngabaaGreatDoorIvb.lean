/-
 ival.Fine over any row. Printed by ivB.py.
-/
import Derived.Test.YtekplphjbngabaaGreatDoorIva
set_option maxRecDepth 100000
namespace Go.Iv
open Go Go.RowKit Go.Sx Go.Nm Go.Wd Go.Qt Go.Proofs
noncomputable def V0 : Env P := ⟨⟨[], []⟩, [], 10, []⟩
noncomputable def xb : Code := bodyOf (innerOf P 140 0)
def xs (n : Nat) (l : Nat → Iv) (i : Nat) : St := ⟨[(8, .v (.int .i64 (i : Int))), (7, .v (.int .i64 (n : Int))), (4, .v (.int .i64 0)), (1, .fn 86 []), (0, .row 900)], [], [], [900, 0], [(900, some ⟨23, 3, n, fun j => I (l j), false⟩)]⟩
def xf (n : Nat) (l : Nat → Iv) (i : Nat) : St := ⟨[(4, .v (.int .i64 (i : Int)))], [], [], [900, 0], [(900, some ⟨23, 3, n, fun j => I (l j), false⟩)]⟩
def xz (n : Nat) (l : Nat → Iv) : St := ⟨[(4, .v (.int .i64 0))], [], [], [900, 0], [(900, some ⟨23, 3, n, fun j => I (l j), false⟩)]⟩
theorem xrE (n : Nat) (l : Nat → Iv) (i : Nat) (k : Nat) : stepF P V0 3 19 xb (xs n l i) (.b false :: []) 1000 (fun _ => some (xz n l)) k =
 some (.exit 0, k, [(decide ((i : Int) < (n : Int))) = false, (.int .i64 0 : Value) = .int .i64 0, n = n, ∀ j, j < n → I (l j) = I (l j)]) := by kernel_rfl
theorem xrO (n : Nat) (l : Nat → Iv) (i : Nat) (k : Nat) : stepF P V0 3 19 xb (xs n l i) (.b true :: (.n i :: (.b false :: (.b true :: (.b false :: (.b true :: (.b false :: (.b false :: [])))))))) 1000 (fun _ => some (xs n l (i + 1))) k =
 some (.normal, k, [(decide ((i : Int) < (n : Int))) = true, (i : Int) = ↑i, i < n, i < n, ((l i).bad) = false, (decide ((l i).lo ≥ -1152921504606846976)) = true, (!(decide ((l i).lo ≤ 1152921504606846976))) = false, (decide ((l i).hi ≥ -1152921504606846976)) = true, (!(decide ((l i).hi ≤ 1152921504606846976))) = false, (decide ((l i).lo > (l i).hi)) = false, (.int .i64 (IntKind.i64.wrap ((i : Int) + 1)) : Value) = .int .i64 ((i + 1 : Nat) : Int), (.int .i64 (n : Int) : Value) = .int .i64 (n : Int), (.int .i64 0 : Value) = .int .i64 0, (.fn 86 [] : SV) = .fn 86 [], (.row 900 : SV) = .row 900, n = n, ∀ j, j < n → I (l j) = I (l j)]) := by kernel_rfl
theorem xr0 (n : Nat) (l : Nat → Iv) (i : Nat) (k : Nat) : stepF P V0 3 19 xb (xs n l i) (.b true :: (.n i :: (.b true :: []))) 1000 (fun _ => some (xf n l i)) k =
 some (.ret, k, [(decide ((i : Int) < (n : Int))) = true, (i : Int) = ↑i, i < n, i < n, ((l i).bad) = true, (.int .i64 (i : Int) : Value) = .int .i64 (i : Int), n = n, ∀ j, j < n → I (l j) = I (l j)]) := by kernel_rfl
theorem xr1 (n : Nat) (l : Nat → Iv) (i : Nat) (k : Nat) : stepF P V0 3 19 xb (xs n l i) (.b true :: (.n i :: (.b false :: (.b false :: [])))) 1000 (fun _ => some (xf n l i)) k =
 some (.ret, k, [(decide ((i : Int) < (n : Int))) = true, (i : Int) = ↑i, i < n, i < n, ((l i).bad) = false, (decide ((l i).lo ≥ -1152921504606846976)) = false, (.int .i64 (i : Int) : Value) = .int .i64 (i : Int), n = n, ∀ j, j < n → I (l j) = I (l j)]) := by kernel_rfl
theorem xr2 (n : Nat) (l : Nat → Iv) (i : Nat) (k : Nat) : stepF P V0 3 19 xb (xs n l i) (.b true :: (.n i :: (.b false :: (.b true :: (.b true :: []))))) 1000 (fun _ => some (xf n l i)) k =
 some (.ret, k, [(decide ((i : Int) < (n : Int))) = true, (i : Int) = ↑i, i < n, i < n, ((l i).bad) = false, (decide ((l i).lo ≥ -1152921504606846976)) = true, (!(decide ((l i).lo ≤ 1152921504606846976))) = true, (.int .i64 (i : Int) : Value) = .int .i64 (i : Int), n = n, ∀ j, j < n → I (l j) = I (l j)]) := by kernel_rfl
theorem xr3 (n : Nat) (l : Nat → Iv) (i : Nat) (k : Nat) : stepF P V0 3 19 xb (xs n l i) (.b true :: (.n i :: (.b false :: (.b true :: (.b false :: (.b false :: [])))))) 1000 (fun _ => some (xf n l i)) k =
 some (.ret, k, [(decide ((i : Int) < (n : Int))) = true, (i : Int) = ↑i, i < n, i < n, ((l i).bad) = false, (decide ((l i).lo ≥ -1152921504606846976)) = true, (!(decide ((l i).lo ≤ 1152921504606846976))) = false, (decide ((l i).hi ≥ -1152921504606846976)) = false, (.int .i64 (i : Int) : Value) = .int .i64 (i : Int), n = n, ∀ j, j < n → I (l j) = I (l j)]) := by kernel_rfl
theorem xr4 (n : Nat) (l : Nat → Iv) (i : Nat) (k : Nat) : stepF P V0 3 19 xb (xs n l i) (.b true :: (.n i :: (.b false :: (.b true :: (.b false :: (.b true :: (.b true :: []))))))) 1000 (fun _ => some (xf n l i)) k =
 some (.ret, k, [(decide ((i : Int) < (n : Int))) = true, (i : Int) = ↑i, i < n, i < n, ((l i).bad) = false, (decide ((l i).lo ≥ -1152921504606846976)) = true, (!(decide ((l i).lo ≤ 1152921504606846976))) = false, (decide ((l i).hi ≥ -1152921504606846976)) = true, (!(decide ((l i).hi ≤ 1152921504606846976))) = true, (.int .i64 (i : Int) : Value) = .int .i64 (i : Int), n = n, ∀ j, j < n → I (l j) = I (l j)]) := by kernel_rfl
theorem xr5 (n : Nat) (l : Nat → Iv) (i : Nat) (k : Nat) : stepF P V0 3 19 xb (xs n l i) (.b true :: (.n i :: (.b false :: (.b true :: (.b false :: (.b true :: (.b false :: (.b true :: [])))))))) 1000 (fun _ => some (xf n l i)) k =
 some (.ret, k, [(decide ((i : Int) < (n : Int))) = true, (i : Int) = ↑i, i < n, i < n, ((l i).bad) = false, (decide ((l i).lo ≥ -1152921504606846976)) = true, (!(decide ((l i).lo ≤ 1152921504606846976))) = false, (decide ((l i).hi ≥ -1152921504606846976)) = true, (!(decide ((l i).hi ≤ 1152921504606846976))) = false, (decide ((l i).lo > (l i).hi)) = true, (.int .i64 (i : Int) : Value) = .int .i64 (i : Int), n = n, ∀ j, j < n → I (l j) = I (l j)]) := by kernel_rfl
theorem not_t {p : Prop} [Decidable p] (h : ¬ p) : (!(decide p)) = true := by rw [decide_eq_false h]; rfl
theorem not_f {p : Prop} [Decidable p] (h : p) : (!(decide p)) = false := by rw [decide_eq_true h]; rfl
theorem x_ok {n : Nat} {l : Nat → Iv} {i : Nat} (hn : n ≤ 1000000) (hi : i < n) (h : fine (l i) = true) {good : Out → St → Prop} (hg : ∀ S1, Keeps S1 (xs n l (i + 1)) → good .normal S1) : StepTo P V0 3 19 xb (xs n l i) good := by
 obtain ⟨hb, h1, h2, h3⟩ := fine_iff.1 h
 have hw : (.int .i64 (IntKind.i64.wrap ((i : Int) + 1)) : Value) = .int .i64 ((i + 1 : Nat) : Int) := by rw [wrap_i64_in (by omega) (by omega)]; rfl
 exact step_run (xrO n l i) (ps_cons (decide_eq_true (by omega)) (ps_cons rfl (ps_cons hi (ps_cons hi (ps_cons hb (ps_cons (decide_eq_true (by omega)) (ps_cons (not_f (by omega)) (ps_cons (decide_eq_true (by omega)) (ps_cons (not_f (by omega)) (ps_cons (decide_eq_false (by omega)) (ps_cons hw (ps_cons rfl (ps_cons rfl (ps_cons rfl (ps_cons rfl (ps_cons rfl (ps_cons (fun _ _ => rfl) ps_nil))))))))))))))))) rfl hg
theorem x_end {n : Nat} {l : Nat → Iv} {i : Nat} (hi : n ≤ i) {good : Out → St → Prop} (hg : ∀ S1, Keeps S1 (xz n l) → good (.exit 0) S1) : StepTo P V0 3 19 xb (xs n l i) good := by
 exact step_run (xrE n l i) (ps_cons (decide_eq_false (by omega)) (ps_cons rfl (ps_cons rfl (ps_cons (fun _ _ => rfl) ps_nil)))) rfl hg
theorem x_bad {n : Nat} {l : Nat → Iv} {i : Nat} (hi : i < n) (h : fine (l i) = false) {good : Out → St → Prop} (hg : ∀ S1, Keeps S1 (xf n l i) → good .ret S1) : StepTo P V0 3 19 xb (xs n l i) good := by
 cases hb : (l i).bad with
 | true => exact step_run (xr0 n l i) (ps_cons (decide_eq_true (by omega)) (ps_cons rfl (ps_cons hi (ps_cons hi (ps_cons hb (ps_cons rfl (ps_cons rfl (ps_cons (fun _ _ => rfl) ps_nil)))))))) rfl hg
 | false =>
  by_cases h1 : (l i).lo ≥ -1152921504606846976
  · by_cases h2 : (l i).lo ≤ 1152921504606846976
    · by_cases h3 : (l i).hi ≥ -1152921504606846976
      · by_cases h4 : (l i).hi ≤ 1152921504606846976
        · by_cases h5 : (l i).lo > (l i).hi
          · exact step_run (xr5 n l i) (ps_cons (decide_eq_true (by omega)) (ps_cons rfl (ps_cons hi (ps_cons hi (ps_cons hb (ps_cons (decide_eq_true (by omega)) (ps_cons (not_f (by omega)) (ps_cons (decide_eq_true (by omega)) (ps_cons (not_f (by omega)) (ps_cons (decide_eq_true (by omega)) (ps_cons rfl (ps_cons rfl (ps_cons (fun _ _ => rfl) ps_nil))))))))))))) rfl hg
          · exfalso
            rw [fine_iff.2 ⟨hb, h1, by omega, h4⟩] at h
            cases h
        · exact step_run (xr4 n l i) (ps_cons (decide_eq_true (by omega)) (ps_cons rfl (ps_cons hi (ps_cons hi (ps_cons hb (ps_cons (decide_eq_true (by omega)) (ps_cons (not_f (by omega)) (ps_cons (decide_eq_true (by omega)) (ps_cons (not_t (by omega)) (ps_cons rfl (ps_cons rfl (ps_cons (fun _ _ => rfl) ps_nil)))))))))))) rfl hg
      · exact step_run (xr3 n l i) (ps_cons (decide_eq_true (by omega)) (ps_cons rfl (ps_cons hi (ps_cons hi (ps_cons hb (ps_cons (decide_eq_true (by omega)) (ps_cons (not_f (by omega)) (ps_cons (decide_eq_false (by omega)) (ps_cons rfl (ps_cons rfl (ps_cons (fun _ _ => rfl) ps_nil))))))))))) rfl hg
    · exact step_run (xr2 n l i) (ps_cons (decide_eq_true (by omega)) (ps_cons rfl (ps_cons hi (ps_cons hi (ps_cons hb (ps_cons (decide_eq_true (by omega)) (ps_cons (not_t (by omega)) (ps_cons rfl (ps_cons rfl (ps_cons (fun _ _ => rfl) ps_nil)))))))))) rfl hg
  · exact step_run (xr1 n l i) (ps_cons (decide_eq_true (by omega)) (ps_cons rfl (ps_cons hi (ps_cons hi (ps_cons hb (ps_cons (decide_eq_false (by omega)) (ps_cons rfl (ps_cons rfl (ps_cons (fun _ _ => rfl) ps_nil))))))))) rfl hg
noncomputable def xAll (n : Nat) (l : Nat → Iv) (hn : n ≤ 1000000) (h : ∀ j, j < n → fine (l j) = true) : CodeC P :=
 loopC mo V0 (by rfl) 3 19 xb [900, 0] (xs n l) (fun i => i ≤ n) (fun i => n - i) (.exit 0) (xz n l) (by simp) (fun _ => rfl) rfl (fun _ => by kernel_rfl) (by kernel_rfl) [900] (fun _ => rfl) rfl
  (fun i hi => by
   by_cases hlt : i < n
   · exact x_ok hn hlt (h i hlt) fun S1 hk => .inl ⟨rfl, i + 1, by omega, by omega, hk⟩
   · exact x_end (by omega) fun S1 hk => .inr ⟨rfl, hk⟩) 0 (Nat.zero_le _)
noncomputable def xOne (n : Nat) (l : Nat → Iv) (hn : n ≤ 1000000) (k : Nat) (hk : k < n) (h : ∀ j, j < k → fine (l j) = true) (hf : fine (l k) = false) : CodeC P :=
 loopC mo V0 (by rfl) 3 19 xb [900, 0] (xs n l) (fun i => i ≤ k) (fun i => n - i) .ret (xf n l k) (by simp) (fun _ => rfl) rfl (fun _ => by kernel_rfl) (by kernel_rfl) [900] (fun _ => rfl) rfl
  (fun i hi => by
   by_cases hlt : i < k
   · exact x_ok hn (by omega) (h i hlt) fun S1 hk => .inl ⟨rfl, i + 1, by omega, by omega, hk⟩
   · have : i = k := by omega
     subst this
     exact x_bad hk hf fun S1 hk => .inr ⟨rfl, hk⟩) 0 (Nat.zero_le _)
noncomputable def VA (n : Nat) (l : Nat → Iv) (hn : n ≤ 1000000) (h : ∀ j, j < n → fine (l j) = true) : Env P := ⟨⟨[], []⟩, [xAll n l hn h], 10, []⟩
noncomputable def VO (n : Nat) (l : Nat → Iv) (hn : n ≤ 1000000) (k : Nat) (hk : k < n) (h : ∀ j, j < k → fine (l j) = true) (hf : fine (l k) = false) : Env P := ⟨⟨[], []⟩, [xOne n l hn k hk h hf], 10, []⟩
theorem fineA_run (n : Nat) (el : Nat → Value) (l : Nat → Iv) (hn : n ≤ 1000000) (h : ∀ j, j < n → fine (l j) = true) : runD P (VA n l hn h) 3 40 [.row ⟨23, 3, n, el, false⟩] (.n 0 :: []) =
 some (.bool true, [Code.loop xb = innerOf P 140 0, (.int .i64 0 : Value) = .int .i64 ((0 : Nat) : Int), (.int .i64 (↑n) : Value) = .int .i64 (n : Int), (.int .i64 0 : Value) = .int .i64 0, (.fn 86 [] : SV) = .fn 86 [], (.row 0 : SV) = .row 0, n = n, ∀ j, j < n → el j = I (l j)]) := by kernel_rfl
theorem fineO_run (n : Nat) (el : Nat → Value) (l : Nat → Iv) (hn : n ≤ 1000000) (k : Nat) (hk : k < n) (h : ∀ j, j < k → fine (l j) = true) (hf : fine (l k) = false) : runD P (VO n l hn k hk h hf) 3 40 [.row ⟨23, 3, n, el, false⟩] (.n 0 :: []) =
 some (.bool (!(decide ((k : Int) ≥ 0))), [Code.loop xb = innerOf P 140 0, (.int .i64 0 : Value) = .int .i64 ((0 : Nat) : Int), (.int .i64 (↑n) : Value) = .int .i64 (n : Int), (.int .i64 0 : Value) = .int .i64 0, (.fn 86 [] : SV) = .fn 86 [], (.row 0 : SV) = .row 0, n = n, ∀ j, j < n → el j = I (l j)]) := by kernel_rfl
theorem fineN_run  : runD P V0 3 40 [.v (.slice none 0 0)] [] =
 some (.bool true, []) := by kernel_rfl
def fineP : List DV → Prop
 | [.row q] => q.ty = 23 ∧ q.sz = 3 ∧ q.n ≤ 1000000 ∧ ∀ j, j < q.n → ∃ a, q.el j = I a
 | [.v x] => x = .slice none 0 0
 | _ => False
def fineV : List DV → Value
 | [d] => .bool (fineL (dvL d))
 | _ => undef
theorem alien_dv {f : FuncId} {q : RowS} {v : Value} (h : GivesD P f [.row { q with own := false }] v) : GivesD P f [.row q] v := fun F n o a W K Q args h1 h2 h3 h4 h5 h6 =>
 h F n o a W K Q args h1 h2 h3 h4 (by cases args with
  | nil => exact h5
  | cons x r => exact h5) h6
theorem first_bad (l : Nat → Iv) : ∀ n, (∃ j, j < n ∧ fine (l j) = false) → ∃ k, k < n ∧ (∀ j, j < k → fine (l j) = true) ∧ fine (l k) = false
 | 0, ⟨j, h, _⟩ => absurd h (Nat.not_lt_zero j)
 | n + 1, ⟨j, h1, h2⟩ => by
  by_cases h : ∃ j, j < n ∧ fine (l j) = false
  · obtain ⟨k, k1, k2, k3⟩ := first_bad l n h
    exact ⟨k, by omega, k2, k3⟩
  · have hall : ∀ i, i < n → fine (l i) = true := fun i hi => by
     cases hf : fine (l i) with
     | true => rfl
     | false => exact absurd ⟨i, hi, hf⟩ h
    have : j = n := by
     rcases Nat.lt_or_ge j n with hj | hj
     · rw [hall j hj] at h2; cases h2
     · omega
    subst this
    exact ⟨j, by omega, hall, h2⟩
theorem fine_gives (ds : List DV) (h : fineP ds) : GivesD P 40 ds (fineV ds) := by
 unfold fineP at h
 split at h
 · rename_i q
   obtain ⟨ty, sz, n, el, own⟩ := q
   obtain ⟨rfl, rfl, hn, h⟩ := h
   refine alien_dv ?_
   simp only at hn h
   have hel : ∀ j, j < n → el j = I (rd (el j)) := fun j hj => by obtain ⟨a, ha⟩ := h j hj; rw [ha]; rfl
   show GivesD P _ [.row ⟨23, 3, n, el, false⟩] (.bool (fineL (rowL n el)))
   cases hf : fineL (rowL n el) with
   | true => exact givesD_of_run mo (fineA_run n el (fun j => rd (el j)) hn (rowL_get.1 hf)) (ps_cons (by kernel_rfl) (ps_cons rfl (ps_cons rfl (ps_cons rfl (ps_cons rfl (ps_cons rfl (ps_cons rfl (ps_cons hel ps_nil)))))))) rfl
   | false =>
    have : ∃ j, j < n ∧ fine (rd (el j)) = false := Classical.byContradiction fun hno => by
     rw [rowL_get.2 fun j hj => by
      cases hg : fine (rd (el j)) with
      | true => rfl
      | false => exact absurd ⟨j, hj, hg⟩ hno] at hf
     cases hf
    obtain ⟨k, k1, k2, k3⟩ := first_bad (fun j => rd (el j)) n this
    exact givesD_of_run mo (fineO_run n el (fun j => rd (el j)) hn k k1 k2 k3) (ps_cons (by kernel_rfl) (ps_cons rfl (ps_cons rfl (ps_cons rfl (ps_cons rfl (ps_cons rfl (ps_cons rfl (ps_cons hel ps_nil)))))))) (by rw [decide_eq_true (by omega)]; rfl)
 · subst h
   exact givesD_of_run mo fineN_run ps_nil rfl
 · exact h.elim
noncomputable def cFine : CtrD P := ⟨40, fineP, fineV, fine_gives⟩
def cells3 : List Iv → List Value
 | [] => []
 | a :: l => .int .i64 a.lo :: .int .i64 a.hi :: .bool a.bad :: cells3 l
def ivs (l : List Iv) : DV := .row ⟨23, 3, l.length, fun j => .agg (((cells3 l).drop (0 + j * 3)).take 3).toArray, false⟩
theorem cells3_drop : ∀ (l : List Iv) (j : Nat) (h : j < l.length), (((cells3 l).drop (0 + j * 3)).take 3) = [.int .i64 l[j].lo, .int .i64 l[j].hi, .bool l[j].bad]
 | [], j, h => absurd h (Nat.not_lt_zero j)
 | a :: l, 0, _ => rfl
 | a :: l, j + 1, h => by
  have ih := cells3_drop l j (Nat.lt_of_succ_lt_succ h)
  have e : 0 + (j + 1) * 3 = (0 + j * 3) + 1 + 1 + 1 := by omega
  rw [e]
  exact ih
theorem ivs_ok {l : List Iv} (h : l.length ≤ 1000000) : fineP [ivs l] := by
 refine ⟨rfl, rfl, h, fun j hj => ⟨l[j]'hj, ?_⟩⟩
 show Value.agg (((cells3 l).drop (0 + j * 3)).take 3).toArray = _
 rw [cells3_drop l j hj]
end Go.Iv
/-
 ival: by, and the numbers of intervals. Printed by ivC.py.
-/
namespace Go.Iv
open Go Go.RowKit Go.Sx Go.Nm Go.Wd Go.Qt Go.Proofs
def byRaw (x n d : Int) : Bool := (qe (x * n) d == 0) && (i64B (qv fq (x * n) d) && (i64B (qv cq (x * n) d) && (decide (byLo x n d ≥ -1152921504606846976) && (decide (byLo x n d ≤ 1152921504606846976) && (decide (byHi x n d ≥ -1152921504606846976) && decide (byHi x n d ≤ 1152921504606846976))))))
def byP : List Value → Prop
 | [.int .i64 x, .int .i64 n, .int .i64 d] => I64 x ∧ I64 n ∧ I64 d
 | _ => False
def byV : List Value → Value
 | [.int _ x, .int _ n, .int _ d] => .tuple #[.int .i64 (byLo x n d), .int .i64 (byHi x n d), .bool (byOk x n d)]
 | _ => undef
theorem i64_in {x : Int} (h : I64 x) : InR x := inR_of (sm64 h)
theorem qe_z {a : Int} : qe a 0 = 30 := by unfold qe; rw [if_pos rfl]
theorem qvf_in {a b : Int} (ha : Sm a) (hb : Sm b) : InR (qv fq a b) := by
 by_cases h : b = 0
 · subst h; rw [qv_e fq (by rw [qe_z]; decide)]; exact inR_0
 · rw [qv_ok fq ha hb h]; exact (fl_facts ha hb h).2.2.2.1
theorem qvc_in {a b : Int} (ha : Sm a) (hb : Sm b) : InR (qv cq a b) := by
 by_cases h : b = 0
 · subst h; rw [qv_e cq (by rw [qe_z]; decide)]; exact inR_0
 · rw [qv_ok cq ha hb h]
   unfold cq
   by_cases hr : fr a b = 0
   · rw [if_pos hr]; exact (fl_facts ha hb h).2.2.2.1
   · rw [if_neg hr]; exact up_in ha hb h hr
theorem fq_cq (a b : Int) : fq a b ≤ cq a b ∧ cq a b ≤ fq a b + 1 := by unfold cq; split <;> omega
theorem byOk_eq {x n d : Int} (hx : I64 x) (hn : I64 n) (hd : I64 d) : byOk x n d = byRaw x n d := by
 have ha := smmul hx hn
 have hb := sm64 hd
 unfold byOk byRaw
 by_cases h : d = 0
 · subst h
   rw [qe_z]
   simp
 · have := fq_cq (x * n) d
   unfold byLo byHi
   rw [qe_ok ha hb h, qv_ok fq ha hb h, qv_ok cq ha hb h]
   generalize fq (x * n) d = f at *
   generalize cq (x * n) d = c at *
   rw [Bool.eq_iff_iff]
   simp only [Bool.and_eq_true, decide_eq_true_eq, beq_self_eq_true, true_and, i64B]
   constructor
   · rintro ⟨_, h1, h2⟩
     refine ⟨⟨by omega, by omega⟩, ⟨by omega, by omega⟩, ?_⟩
     rw [if_pos ⟨by omega, by omega⟩, if_pos ⟨by omega, by omega⟩]
     omega
   · rintro ⟨h1, h2, h3⟩
     rw [if_pos h1, if_pos h2] at h3
     exact ⟨h, by omega, by omega⟩
noncomputable def J0 : Env P := ⟨⟨wideC ++ quotC, []⟩, [], 10, []⟩
theorem by0_run (x n d : Int) : runF P J0 1 153 [.int .i64 x, .int .i64 n, .int .i64 d] (.b false :: []) =
 some (.tuple #[.int .i64 (if i64B (tI (W (qv fq (tI (W (tI (W x) * tI (W n)))) (tI (W d))))) then tI (W (qv fq (tI (W (tI (W x) * tI (W n)))) (tI (W d)))) else 0), .int .i64 (if i64B (tI (W (qv cq (tI (W (tI (W x) * tI (W n)))) (tI (W d))))) then tI (W (qv cq (tI (W (tI (W x) * tI (W n)))) (tI (W d)))) else 0), .bool false], [ofP [.int .i64 x], ofP [.int .i64 n], P2 [W x, W n], ofP [.int .i64 d], P2 [W (tI (W x) * tI (W n)), W d], ofP [.int .i64 d], P2 [W (tI (W x) * tI (W n)), W d], P1 [W (qv fq (tI (W (tI (W x) * tI (W n)))) (tI (W d)))], P1 [W (qv cq (tI (W (tI (W x) * tI (W n)))) (tI (W d)))], (qe (tI (W (tI (W x) * tI (W n)))) (tI (W d)) == 0) = false]) := by kernel_rfl
theorem by0_leaf (x n d : Int) (hx : I64 x) (hn : I64 n) (hd : I64 d) (q0 : (qe (x * n) d == 0) = false) : Gives P 153 #[.int .i64 x, .int .i64 n, .int .i64 d] (byV [.int .i64 x, .int .i64 n, .int .i64 d]) := by
 have e0 : tI (W x) = x := tI_in (i64_in hx)
 have e1 : tI (W n) = n := tI_in (i64_in hn)
 have e2 : tI (W (x * n)) = x * n := tI_in (inR_of (smmul hx hn))
 have e3 : tI (W d) = d := tI_in (i64_in hd)
 have e4 : tI (W (qv fq ((x * n)) d)) = qv fq ((x * n)) d := tI_in (qvf_in (smmul hx hn) (sm64 hd))
 have e5 : tI (W (qv cq ((x * n)) d)) = qv cq ((x * n)) d := tI_in (qvc_in (smmul hx hn) (sm64 hd))
 have R := by0_run x n d
 rw [e0, e1, e2, e3, e4, e5] at R
 refine gives_of_run mo R (ps_cons hx (ps_cons hn (ps_cons (P2_W _ _) (ps_cons hd (ps_cons (P2_W _ _) (ps_cons hd (ps_cons (P2_W _ _) (ps_cons (P1_W _) (ps_cons (P1_W _) (ps_cons q0 ps_nil)))))))))) ?_
 have eb : byOk x n d = false := by
  rw [byOk_eq hx hn hd]
  unfold byRaw
  rw [q0]
  rfl
 show _ = Value.tuple #[.int .i64 (byLo x n d), .int .i64 (byHi x n d), .bool (byOk x n d)]
 rw [eb]
 rfl
theorem by1_run (x n d : Int) : runF P J0 1 153 [.int .i64 x, .int .i64 n, .int .i64 d] (.b true :: (.b false :: [])) =
 some (.tuple #[.int .i64 (if i64B (tI (W (qv fq (tI (W (tI (W x) * tI (W n)))) (tI (W d))))) then tI (W (qv fq (tI (W (tI (W x) * tI (W n)))) (tI (W d)))) else 0), .int .i64 (if i64B (tI (W (qv cq (tI (W (tI (W x) * tI (W n)))) (tI (W d))))) then tI (W (qv cq (tI (W (tI (W x) * tI (W n)))) (tI (W d)))) else 0), .bool false], [ofP [.int .i64 x], ofP [.int .i64 n], P2 [W x, W n], ofP [.int .i64 d], P2 [W (tI (W x) * tI (W n)), W d], ofP [.int .i64 d], P2 [W (tI (W x) * tI (W n)), W d], P1 [W (qv fq (tI (W (tI (W x) * tI (W n)))) (tI (W d)))], P1 [W (qv cq (tI (W (tI (W x) * tI (W n)))) (tI (W d)))], (qe (tI (W (tI (W x) * tI (W n)))) (tI (W d)) == 0) = true, (i64B (tI (W (qv fq (tI (W (tI (W x) * tI (W n)))) (tI (W d)))))) = false]) := by kernel_rfl
theorem by1_leaf (x n d : Int) (hx : I64 x) (hn : I64 n) (hd : I64 d) (q0 : (qe (x * n) d == 0) = true) (q1 : i64B (qv fq (x * n) d) = false) : Gives P 153 #[.int .i64 x, .int .i64 n, .int .i64 d] (byV [.int .i64 x, .int .i64 n, .int .i64 d]) := by
 have e0 : tI (W x) = x := tI_in (i64_in hx)
 have e1 : tI (W n) = n := tI_in (i64_in hn)
 have e2 : tI (W (x * n)) = x * n := tI_in (inR_of (smmul hx hn))
 have e3 : tI (W d) = d := tI_in (i64_in hd)
 have e4 : tI (W (qv fq ((x * n)) d)) = qv fq ((x * n)) d := tI_in (qvf_in (smmul hx hn) (sm64 hd))
 have e5 : tI (W (qv cq ((x * n)) d)) = qv cq ((x * n)) d := tI_in (qvc_in (smmul hx hn) (sm64 hd))
 have R := by1_run x n d
 rw [e0, e1, e2, e3, e4, e5] at R
 refine gives_of_run mo R (ps_cons hx (ps_cons hn (ps_cons (P2_W _ _) (ps_cons hd (ps_cons (P2_W _ _) (ps_cons hd (ps_cons (P2_W _ _) (ps_cons (P1_W _) (ps_cons (P1_W _) (ps_cons q0 (ps_cons q1 ps_nil))))))))))) ?_
 have eb : byOk x n d = false := by
  rw [byOk_eq hx hn hd]
  unfold byRaw
  rw [q0, q1]
  rfl
 show _ = Value.tuple #[.int .i64 (byLo x n d), .int .i64 (byHi x n d), .bool (byOk x n d)]
 rw [eb]
 rfl
theorem by2_run (x n d : Int) : runF P J0 1 153 [.int .i64 x, .int .i64 n, .int .i64 d] (.b true :: (.b true :: (.b false :: []))) =
 some (.tuple #[.int .i64 (if i64B (tI (W (qv fq (tI (W (tI (W x) * tI (W n)))) (tI (W d))))) then tI (W (qv fq (tI (W (tI (W x) * tI (W n)))) (tI (W d)))) else 0), .int .i64 (if i64B (tI (W (qv cq (tI (W (tI (W x) * tI (W n)))) (tI (W d))))) then tI (W (qv cq (tI (W (tI (W x) * tI (W n)))) (tI (W d)))) else 0), .bool false], [ofP [.int .i64 x], ofP [.int .i64 n], P2 [W x, W n], ofP [.int .i64 d], P2 [W (tI (W x) * tI (W n)), W d], ofP [.int .i64 d], P2 [W (tI (W x) * tI (W n)), W d], P1 [W (qv fq (tI (W (tI (W x) * tI (W n)))) (tI (W d)))], P1 [W (qv cq (tI (W (tI (W x) * tI (W n)))) (tI (W d)))], (qe (tI (W (tI (W x) * tI (W n)))) (tI (W d)) == 0) = true, (i64B (tI (W (qv fq (tI (W (tI (W x) * tI (W n)))) (tI (W d)))))) = true, (i64B (tI (W (qv cq (tI (W (tI (W x) * tI (W n)))) (tI (W d)))))) = false]) := by kernel_rfl
theorem by2_leaf (x n d : Int) (hx : I64 x) (hn : I64 n) (hd : I64 d) (q0 : (qe (x * n) d == 0) = true) (q1 : i64B (qv fq (x * n) d) = true) (q2 : i64B (qv cq (x * n) d) = false) : Gives P 153 #[.int .i64 x, .int .i64 n, .int .i64 d] (byV [.int .i64 x, .int .i64 n, .int .i64 d]) := by
 have e0 : tI (W x) = x := tI_in (i64_in hx)
 have e1 : tI (W n) = n := tI_in (i64_in hn)
 have e2 : tI (W (x * n)) = x * n := tI_in (inR_of (smmul hx hn))
 have e3 : tI (W d) = d := tI_in (i64_in hd)
 have e4 : tI (W (qv fq ((x * n)) d)) = qv fq ((x * n)) d := tI_in (qvf_in (smmul hx hn) (sm64 hd))
 have e5 : tI (W (qv cq ((x * n)) d)) = qv cq ((x * n)) d := tI_in (qvc_in (smmul hx hn) (sm64 hd))
 have R := by2_run x n d
 rw [e0, e1, e2, e3, e4, e5] at R
 refine gives_of_run mo R (ps_cons hx (ps_cons hn (ps_cons (P2_W _ _) (ps_cons hd (ps_cons (P2_W _ _) (ps_cons hd (ps_cons (P2_W _ _) (ps_cons (P1_W _) (ps_cons (P1_W _) (ps_cons q0 (ps_cons q1 (ps_cons q2 ps_nil)))))))))))) ?_
 have eb : byOk x n d = false := by
  rw [byOk_eq hx hn hd]
  unfold byRaw
  rw [q0, q1, q2]
  rfl
 show _ = Value.tuple #[.int .i64 (byLo x n d), .int .i64 (byHi x n d), .bool (byOk x n d)]
 rw [eb]
 rfl
theorem by3_run (x n d : Int) : runF P J0 2 153 [.int .i64 x, .int .i64 n, .int .i64 d] (.b true :: (.b true :: (.b true :: (.b false :: [])))) =
 some (.tuple #[.int .i64 (if i64B (tI (W (qv fq (tI (W (tI (W x) * tI (W n)))) (tI (W d))))) then tI (W (qv fq (tI (W (tI (W x) * tI (W n)))) (tI (W d)))) else 0), .int .i64 (if i64B (tI (W (qv cq (tI (W (tI (W x) * tI (W n)))) (tI (W d))))) then tI (W (qv cq (tI (W (tI (W x) * tI (W n)))) (tI (W d)))) else 0), .bool false], [ofP [.int .i64 x], ofP [.int .i64 n], P2 [W x, W n], ofP [.int .i64 d], P2 [W (tI (W x) * tI (W n)), W d], ofP [.int .i64 d], P2 [W (tI (W x) * tI (W n)), W d], P1 [W (qv fq (tI (W (tI (W x) * tI (W n)))) (tI (W d)))], P1 [W (qv cq (tI (W (tI (W x) * tI (W n)))) (tI (W d)))], (qe (tI (W (tI (W x) * tI (W n)))) (tI (W d)) == 0) = true, (i64B (tI (W (qv fq (tI (W (tI (W x) * tI (W n)))) (tI (W d)))))) = true, (i64B (tI (W (qv cq (tI (W (tI (W x) * tI (W n)))) (tI (W d)))))) = true, (decide ((if i64B (tI (W (qv fq (tI (W (tI (W x) * tI (W n)))) (tI (W d))))) then tI (W (qv fq (tI (W (tI (W x) * tI (W n)))) (tI (W d)))) else 0) ≥ -1152921504606846976)) = false]) := by kernel_rfl
theorem by3_leaf (x n d : Int) (hx : I64 x) (hn : I64 n) (hd : I64 d) (q0 : (qe (x * n) d == 0) = true) (q1 : i64B (qv fq (x * n) d) = true) (q2 : i64B (qv cq (x * n) d) = true) (q3 : decide (byLo x n d ≥ -1152921504606846976) = false) : Gives P 153 #[.int .i64 x, .int .i64 n, .int .i64 d] (byV [.int .i64 x, .int .i64 n, .int .i64 d]) := by
 have e0 : tI (W x) = x := tI_in (i64_in hx)
 have e1 : tI (W n) = n := tI_in (i64_in hn)
 have e2 : tI (W (x * n)) = x * n := tI_in (inR_of (smmul hx hn))
 have e3 : tI (W d) = d := tI_in (i64_in hd)
 have e4 : tI (W (qv fq ((x * n)) d)) = qv fq ((x * n)) d := tI_in (qvf_in (smmul hx hn) (sm64 hd))
 have e5 : tI (W (qv cq ((x * n)) d)) = qv cq ((x * n)) d := tI_in (qvc_in (smmul hx hn) (sm64 hd))
 have R := by3_run x n d
 rw [e0, e1, e2, e3, e4, e5] at R
 refine gives_of_run mo R (ps_cons hx (ps_cons hn (ps_cons (P2_W _ _) (ps_cons hd (ps_cons (P2_W _ _) (ps_cons hd (ps_cons (P2_W _ _) (ps_cons (P1_W _) (ps_cons (P1_W _) (ps_cons q0 (ps_cons q1 (ps_cons q2 (ps_cons q3 ps_nil))))))))))))) ?_
 have eb : byOk x n d = false := by
  rw [byOk_eq hx hn hd]
  unfold byRaw
  rw [q0, q1, q2, q3]
  rfl
 show _ = Value.tuple #[.int .i64 (byLo x n d), .int .i64 (byHi x n d), .bool (byOk x n d)]
 rw [eb]
 rfl
theorem by4_run (x n d : Int) : runF P J0 2 153 [.int .i64 x, .int .i64 n, .int .i64 d] (.b true :: (.b true :: (.b true :: (.b true :: (.b false :: []))))) =
 some (.tuple #[.int .i64 (if i64B (tI (W (qv fq (tI (W (tI (W x) * tI (W n)))) (tI (W d))))) then tI (W (qv fq (tI (W (tI (W x) * tI (W n)))) (tI (W d)))) else 0), .int .i64 (if i64B (tI (W (qv cq (tI (W (tI (W x) * tI (W n)))) (tI (W d))))) then tI (W (qv cq (tI (W (tI (W x) * tI (W n)))) (tI (W d)))) else 0), .bool false], [ofP [.int .i64 x], ofP [.int .i64 n], P2 [W x, W n], ofP [.int .i64 d], P2 [W (tI (W x) * tI (W n)), W d], ofP [.int .i64 d], P2 [W (tI (W x) * tI (W n)), W d], P1 [W (qv fq (tI (W (tI (W x) * tI (W n)))) (tI (W d)))], P1 [W (qv cq (tI (W (tI (W x) * tI (W n)))) (tI (W d)))], (qe (tI (W (tI (W x) * tI (W n)))) (tI (W d)) == 0) = true, (i64B (tI (W (qv fq (tI (W (tI (W x) * tI (W n)))) (tI (W d)))))) = true, (i64B (tI (W (qv cq (tI (W (tI (W x) * tI (W n)))) (tI (W d)))))) = true, (decide ((if i64B (tI (W (qv fq (tI (W (tI (W x) * tI (W n)))) (tI (W d))))) then tI (W (qv fq (tI (W (tI (W x) * tI (W n)))) (tI (W d)))) else 0) ≥ -1152921504606846976)) = true, (decide ((if i64B (tI (W (qv fq (tI (W (tI (W x) * tI (W n)))) (tI (W d))))) then tI (W (qv fq (tI (W (tI (W x) * tI (W n)))) (tI (W d)))) else 0) ≤ 1152921504606846976)) = false]) := by kernel_rfl
theorem by4_leaf (x n d : Int) (hx : I64 x) (hn : I64 n) (hd : I64 d) (q0 : (qe (x * n) d == 0) = true) (q1 : i64B (qv fq (x * n) d) = true) (q2 : i64B (qv cq (x * n) d) = true) (q3 : decide (byLo x n d ≥ -1152921504606846976) = true) (q4 : decide (byLo x n d ≤ 1152921504606846976) = false) : Gives P 153 #[.int .i64 x, .int .i64 n, .int .i64 d] (byV [.int .i64 x, .int .i64 n, .int .i64 d]) := by
 have e0 : tI (W x) = x := tI_in (i64_in hx)
 have e1 : tI (W n) = n := tI_in (i64_in hn)
 have e2 : tI (W (x * n)) = x * n := tI_in (inR_of (smmul hx hn))
 have e3 : tI (W d) = d := tI_in (i64_in hd)
 have e4 : tI (W (qv fq ((x * n)) d)) = qv fq ((x * n)) d := tI_in (qvf_in (smmul hx hn) (sm64 hd))
 have e5 : tI (W (qv cq ((x * n)) d)) = qv cq ((x * n)) d := tI_in (qvc_in (smmul hx hn) (sm64 hd))
 have R := by4_run x n d
 rw [e0, e1, e2, e3, e4, e5] at R
 refine gives_of_run mo R (ps_cons hx (ps_cons hn (ps_cons (P2_W _ _) (ps_cons hd (ps_cons (P2_W _ _) (ps_cons hd (ps_cons (P2_W _ _) (ps_cons (P1_W _) (ps_cons (P1_W _) (ps_cons q0 (ps_cons q1 (ps_cons q2 (ps_cons q3 (ps_cons q4 ps_nil)))))))))))))) ?_
 have eb : byOk x n d = false := by
  rw [byOk_eq hx hn hd]
  unfold byRaw
  rw [q0, q1, q2, q3, q4]
  rfl
 show _ = Value.tuple #[.int .i64 (byLo x n d), .int .i64 (byHi x n d), .bool (byOk x n d)]
 rw [eb]
 rfl
theorem by5_run (x n d : Int) : runF P J0 2 153 [.int .i64 x, .int .i64 n, .int .i64 d] (.b true :: (.b true :: (.b true :: (.b true :: (.b true :: (.b false :: [])))))) =
 some (.tuple #[.int .i64 (if i64B (tI (W (qv fq (tI (W (tI (W x) * tI (W n)))) (tI (W d))))) then tI (W (qv fq (tI (W (tI (W x) * tI (W n)))) (tI (W d)))) else 0), .int .i64 (if i64B (tI (W (qv cq (tI (W (tI (W x) * tI (W n)))) (tI (W d))))) then tI (W (qv cq (tI (W (tI (W x) * tI (W n)))) (tI (W d)))) else 0), .bool false], [ofP [.int .i64 x], ofP [.int .i64 n], P2 [W x, W n], ofP [.int .i64 d], P2 [W (tI (W x) * tI (W n)), W d], ofP [.int .i64 d], P2 [W (tI (W x) * tI (W n)), W d], P1 [W (qv fq (tI (W (tI (W x) * tI (W n)))) (tI (W d)))], P1 [W (qv cq (tI (W (tI (W x) * tI (W n)))) (tI (W d)))], (qe (tI (W (tI (W x) * tI (W n)))) (tI (W d)) == 0) = true, (i64B (tI (W (qv fq (tI (W (tI (W x) * tI (W n)))) (tI (W d)))))) = true, (i64B (tI (W (qv cq (tI (W (tI (W x) * tI (W n)))) (tI (W d)))))) = true, (decide ((if i64B (tI (W (qv fq (tI (W (tI (W x) * tI (W n)))) (tI (W d))))) then tI (W (qv fq (tI (W (tI (W x) * tI (W n)))) (tI (W d)))) else 0) ≥ -1152921504606846976)) = true, (decide ((if i64B (tI (W (qv fq (tI (W (tI (W x) * tI (W n)))) (tI (W d))))) then tI (W (qv fq (tI (W (tI (W x) * tI (W n)))) (tI (W d)))) else 0) ≤ 1152921504606846976)) = true, (decide ((if i64B (tI (W (qv cq (tI (W (tI (W x) * tI (W n)))) (tI (W d))))) then tI (W (qv cq (tI (W (tI (W x) * tI (W n)))) (tI (W d)))) else 0) ≥ -1152921504606846976)) = false]) := by kernel_rfl
theorem by5_leaf (x n d : Int) (hx : I64 x) (hn : I64 n) (hd : I64 d) (q0 : (qe (x * n) d == 0) = true) (q1 : i64B (qv fq (x * n) d) = true) (q2 : i64B (qv cq (x * n) d) = true) (q3 : decide (byLo x n d ≥ -1152921504606846976) = true) (q4 : decide (byLo x n d ≤ 1152921504606846976) = true) (q5 : decide (byHi x n d ≥ -1152921504606846976) = false) : Gives P 153 #[.int .i64 x, .int .i64 n, .int .i64 d] (byV [.int .i64 x, .int .i64 n, .int .i64 d]) := by
 have e0 : tI (W x) = x := tI_in (i64_in hx)
 have e1 : tI (W n) = n := tI_in (i64_in hn)
 have e2 : tI (W (x * n)) = x * n := tI_in (inR_of (smmul hx hn))
 have e3 : tI (W d) = d := tI_in (i64_in hd)
 have e4 : tI (W (qv fq ((x * n)) d)) = qv fq ((x * n)) d := tI_in (qvf_in (smmul hx hn) (sm64 hd))
 have e5 : tI (W (qv cq ((x * n)) d)) = qv cq ((x * n)) d := tI_in (qvc_in (smmul hx hn) (sm64 hd))
 have R := by5_run x n d
 rw [e0, e1, e2, e3, e4, e5] at R
 refine gives_of_run mo R (ps_cons hx (ps_cons hn (ps_cons (P2_W _ _) (ps_cons hd (ps_cons (P2_W _ _) (ps_cons hd (ps_cons (P2_W _ _) (ps_cons (P1_W _) (ps_cons (P1_W _) (ps_cons q0 (ps_cons q1 (ps_cons q2 (ps_cons q3 (ps_cons q4 (ps_cons q5 ps_nil))))))))))))))) ?_
 have eb : byOk x n d = false := by
  rw [byOk_eq hx hn hd]
  unfold byRaw
  rw [q0, q1, q2, q3, q4, q5]
  rfl
 show _ = Value.tuple #[.int .i64 (byLo x n d), .int .i64 (byHi x n d), .bool (byOk x n d)]
 rw [eb]
 rfl
theorem by6_run (x n d : Int) : runF P J0 2 153 [.int .i64 x, .int .i64 n, .int .i64 d] (.b true :: (.b true :: (.b true :: (.b true :: (.b true :: (.b true :: [])))))) =
 some (.tuple #[.int .i64 (if i64B (tI (W (qv fq (tI (W (tI (W x) * tI (W n)))) (tI (W d))))) then tI (W (qv fq (tI (W (tI (W x) * tI (W n)))) (tI (W d)))) else 0), .int .i64 (if i64B (tI (W (qv cq (tI (W (tI (W x) * tI (W n)))) (tI (W d))))) then tI (W (qv cq (tI (W (tI (W x) * tI (W n)))) (tI (W d)))) else 0), .bool (decide ((if i64B (tI (W (qv cq (tI (W (tI (W x) * tI (W n)))) (tI (W d))))) then tI (W (qv cq (tI (W (tI (W x) * tI (W n)))) (tI (W d)))) else 0) ≤ 1152921504606846976))], [ofP [.int .i64 x], ofP [.int .i64 n], P2 [W x, W n], ofP [.int .i64 d], P2 [W (tI (W x) * tI (W n)), W d], ofP [.int .i64 d], P2 [W (tI (W x) * tI (W n)), W d], P1 [W (qv fq (tI (W (tI (W x) * tI (W n)))) (tI (W d)))], P1 [W (qv cq (tI (W (tI (W x) * tI (W n)))) (tI (W d)))], (qe (tI (W (tI (W x) * tI (W n)))) (tI (W d)) == 0) = true, (i64B (tI (W (qv fq (tI (W (tI (W x) * tI (W n)))) (tI (W d)))))) = true, (i64B (tI (W (qv cq (tI (W (tI (W x) * tI (W n)))) (tI (W d)))))) = true, (decide ((if i64B (tI (W (qv fq (tI (W (tI (W x) * tI (W n)))) (tI (W d))))) then tI (W (qv fq (tI (W (tI (W x) * tI (W n)))) (tI (W d)))) else 0) ≥ -1152921504606846976)) = true, (decide ((if i64B (tI (W (qv fq (tI (W (tI (W x) * tI (W n)))) (tI (W d))))) then tI (W (qv fq (tI (W (tI (W x) * tI (W n)))) (tI (W d)))) else 0) ≤ 1152921504606846976)) = true, (decide ((if i64B (tI (W (qv cq (tI (W (tI (W x) * tI (W n)))) (tI (W d))))) then tI (W (qv cq (tI (W (tI (W x) * tI (W n)))) (tI (W d)))) else 0) ≥ -1152921504606846976)) = true]) := by kernel_rfl
theorem by6_leaf (x n d : Int) (hx : I64 x) (hn : I64 n) (hd : I64 d) (q0 : (qe (x * n) d == 0) = true) (q1 : i64B (qv fq (x * n) d) = true) (q2 : i64B (qv cq (x * n) d) = true) (q3 : decide (byLo x n d ≥ -1152921504606846976) = true) (q4 : decide (byLo x n d ≤ 1152921504606846976) = true) (q5 : decide (byHi x n d ≥ -1152921504606846976) = true) : Gives P 153 #[.int .i64 x, .int .i64 n, .int .i64 d] (byV [.int .i64 x, .int .i64 n, .int .i64 d]) := by
 have e0 : tI (W x) = x := tI_in (i64_in hx)
 have e1 : tI (W n) = n := tI_in (i64_in hn)
 have e2 : tI (W (x * n)) = x * n := tI_in (inR_of (smmul hx hn))
 have e3 : tI (W d) = d := tI_in (i64_in hd)
 have e4 : tI (W (qv fq ((x * n)) d)) = qv fq ((x * n)) d := tI_in (qvf_in (smmul hx hn) (sm64 hd))
 have e5 : tI (W (qv cq ((x * n)) d)) = qv cq ((x * n)) d := tI_in (qvc_in (smmul hx hn) (sm64 hd))
 have R := by6_run x n d
 rw [e0, e1, e2, e3, e4, e5] at R
 refine gives_of_run mo R (ps_cons hx (ps_cons hn (ps_cons (P2_W _ _) (ps_cons hd (ps_cons (P2_W _ _) (ps_cons hd (ps_cons (P2_W _ _) (ps_cons (P1_W _) (ps_cons (P1_W _) (ps_cons q0 (ps_cons q1 (ps_cons q2 (ps_cons q3 (ps_cons q4 (ps_cons q5 ps_nil))))))))))))))) ?_
 have eb : byOk x n d = decide (byHi x n d ≤ 1152921504606846976) := by
  rw [byOk_eq hx hn hd]
  unfold byRaw
  rw [q0, q1, q2, q3, q4, q5]
  rfl
 show _ = Value.tuple #[.int .i64 (byLo x n d), .int .i64 (byHi x n d), .bool (byOk x n d)]
 rw [eb]
 rfl
theorem by_gives (args : List Value) (h : byP args) : Gives P 153 args.toArray (byV args) := by
 unfold byP at h
 split at h
 · rename_i x n d
   obtain ⟨hx, hn, hd⟩ := h
   cases q0 : (qe (x * n) d == 0) with
   | false => exact by0_leaf x n d hx hn hd q0
   | true =>
   cases q1 : i64B (qv fq (x * n) d) with
   | false => exact by1_leaf x n d hx hn hd q0 q1
   | true =>
   cases q2 : i64B (qv cq (x * n) d) with
   | false => exact by2_leaf x n d hx hn hd q0 q1 q2
   | true =>
   cases q3 : decide (byLo x n d ≥ -1152921504606846976) with
   | false => exact by3_leaf x n d hx hn hd q0 q1 q2 q3
   | true =>
   cases q4 : decide (byLo x n d ≤ 1152921504606846976) with
   | false => exact by4_leaf x n d hx hn hd q0 q1 q2 q3 q4
   | true =>
   cases q5 : decide (byHi x n d ≥ -1152921504606846976) with
   | false => exact by5_leaf x n d hx hn hd q0 q1 q2 q3 q4 q5
   | true =>
   exact by6_leaf x n d hx hn hd q0 q1 q2 q3 q4 q5
 · exact h.elim
noncomputable def cBy : Ctr P := ⟨153, byP, byV, by_gives⟩
noncomputable def J1 : Env P := ⟨⟨[cBy], [cFine]⟩, [], 10, []⟩
def one1 (f : Iv → Value) : List Value → Value
 | [x] => f (rd x)
 | _ => undef
def two2 (f : Iv → Iv → Value) : List Value → Value
 | [x, y] => f (rd x) (rd y)
 | _ => undef
def iP1 : List Value → Prop
 | [x] => ∃ a, x = I a
 | _ => False
def iP2 : List Value → Prop
 | [x, y] => (∃ a, x = I a) ∧ ∃ b, y = I b
 | _ => False
def nP1 : List Value → Prop
 | [.int .i64 n] => I64 n
 | _ => False
def nP2 : List Value → Prop
 | [.int .i64 n, .int .i64 m] => I64 n ∧ I64 m
 | _ => False
def partP : List Value → Prop
 | [x, .int .i64 n, .int .i64 d] => (∃ a, x = I a) ∧ I64 n ∧ I64 d
 | _ => False
def n1V (f : Int → Value) : List Value → Value
 | [.int _ n] => f n
 | _ => undef
def n2V (f : Int → Int → Value) : List Value → Value
 | [.int _ n, .int _ m] => f n m
 | _ => undef
def partV : List Value → Value
 | [x, .int _ n, .int _ d] => I (partI (rd x) n d)
 | _ => undef
theorem i64one : I64 1073741824 := by unfold I64; omega
theorem neg_t {b : Bool} (h : b = false) : (!b) = true := by rw [h]; rfl
theorem neg_f {b : Bool} (h : b = true) : (!b) = false := by rw [h]; rfl
theorem fine_wr {a : Iv} (h : fine a = true) : I64 a.lo ∧ I64 a.hi := by have := fine_iff.1 h; unfold I64; omega
theorem wr {n : Int} (h1 : -9223372036854775808 ≤ n) (h2 : n < 9223372036854775808) : IntKind.i64.wrap n = n := wrap_i64_in h1 h2
theorem add0_run (a b : Iv) : runF P J1 3 108 [I a, I b] (.lit :: (.b true :: [])) =
 some (I (⟨0, 0, true⟩), [fineP [ivs [a, b]], (!(fineL [a, b])) = true]) := by kernel_rfl
theorem add0_leaf (a b : Iv) (hf : fineL [a, b] = false) : Gives P 108 #[I a, I b] (I (addI a b)) := by
 have R := add0_run a b
 refine gives_of_run mo R (ps_cons (ivs_ok (by simp)) (ps_cons (neg_t hf) ps_nil)) ?_
 unfold addI
 rw [hf]
 rfl
theorem add1_run (a b : Iv) : runF P J1 3 108 [I a, I b] (.lit :: (.b false :: (.lit :: (.lit :: (.b true :: []))))) =
 some (I (⟨IntKind.i64.wrap (a.lo + b.lo), IntKind.i64.wrap (a.hi + b.hi), false⟩), [fineP [ivs [a, b]], (!(fineL [a, b])) = false, fineP [ivs [⟨IntKind.i64.wrap (a.lo + b.lo), IntKind.i64.wrap (a.hi + b.hi), false⟩]], (fineL [⟨IntKind.i64.wrap (a.lo + b.lo), IntKind.i64.wrap (a.hi + b.hi), false⟩]) = true]) := by kernel_rfl
theorem add1_leaf (a b : Iv) (hf : fineL [a, b] = true) (er : (⟨IntKind.i64.wrap (a.lo + b.lo), IntKind.i64.wrap (a.hi + b.hi), false⟩ : Iv) = ⟨a.lo + b.lo, a.hi + b.hi, false⟩) (hg : fineL [(⟨IntKind.i64.wrap (a.lo + b.lo), IntKind.i64.wrap (a.hi + b.hi), false⟩ : Iv)] = true) : Gives P 108 #[I a, I b] (I (addI a b)) := by
 have R := add1_run a b
 refine gives_of_run mo R (ps_cons (ivs_ok (by simp)) (ps_cons (neg_f hf) (ps_cons (ivs_ok (by simp)) (ps_cons hg ps_nil)))) ?_
 unfold addI
 rw [hf, ← er, told_ok (fine1 ▸ hg)]
 rfl
theorem add2_run (a b : Iv) : runF P J1 3 108 [I a, I b] (.lit :: (.b false :: (.lit :: (.lit :: (.b false :: []))))) =
 some (I (⟨0, 0, true⟩), [fineP [ivs [a, b]], (!(fineL [a, b])) = false, fineP [ivs [⟨IntKind.i64.wrap (a.lo + b.lo), IntKind.i64.wrap (a.hi + b.hi), false⟩]], (fineL [⟨IntKind.i64.wrap (a.lo + b.lo), IntKind.i64.wrap (a.hi + b.hi), false⟩]) = false]) := by kernel_rfl
theorem add2_leaf (a b : Iv) (hf : fineL [a, b] = true) (er : (⟨IntKind.i64.wrap (a.lo + b.lo), IntKind.i64.wrap (a.hi + b.hi), false⟩ : Iv) = ⟨a.lo + b.lo, a.hi + b.hi, false⟩) (hg : fineL [(⟨IntKind.i64.wrap (a.lo + b.lo), IntKind.i64.wrap (a.hi + b.hi), false⟩ : Iv)] = false) : Gives P 108 #[I a, I b] (I (addI a b)) := by
 have R := add2_run a b
 refine gives_of_run mo R (ps_cons (ivs_ok (by simp)) (ps_cons (neg_f hf) (ps_cons (ivs_ok (by simp)) (ps_cons hg ps_nil)))) ?_
 unfold addI
 rw [hf, ← er, told_no (fine1 ▸ hg)]
 rfl
theorem add_gives (args : List Value) (h : iP2 args) : Gives P 108 args.toArray ((two2 fun a b => I (addI a b)) args) := by
 unfold iP2 at h
 split at h
 · obtain ⟨⟨a, rfl⟩, b, rfl⟩ := h
   show Gives P _ #[I a, I b] (I (addI a b))
   cases hf : fineL [a, b] with
   | false => exact add0_leaf a b hf
   | true =>
    have er : (⟨IntKind.i64.wrap (a.lo + b.lo), IntKind.i64.wrap (a.hi + b.hi), false⟩ : Iv) = ⟨a.lo + b.lo, a.hi + b.hi, false⟩ := by
     have h := fine2.1 hf
     have := fine_iff.1 h.1
     have := fine_iff.1 h.2
     rw [wr (by omega) (by omega), wr (by omega) (by omega)]
    cases hg : fineL [(⟨IntKind.i64.wrap (a.lo + b.lo), IntKind.i64.wrap (a.hi + b.hi), false⟩ : Iv)] with
    | true => exact add1_leaf a b hf er hg
    | false => exact add2_leaf a b hf er hg
 · exact h.elim
noncomputable def cAdd : Ctr P := ⟨108, iP2, two2 fun a b => I (addI a b), add_gives⟩
theorem sub0_run (a b : Iv) : runF P J1 3 21 [I a, I b] (.lit :: (.b true :: [])) =
 some (I (⟨0, 0, true⟩), [fineP [ivs [a, b]], (!(fineL [a, b])) = true]) := by kernel_rfl
theorem sub0_leaf (a b : Iv) (hf : fineL [a, b] = false) : Gives P 21 #[I a, I b] (I (subI a b)) := by
 have R := sub0_run a b
 refine gives_of_run mo R (ps_cons (ivs_ok (by simp)) (ps_cons (neg_t hf) ps_nil)) ?_
 unfold subI
 rw [hf]
 rfl
theorem sub1_run (a b : Iv) : runF P J1 3 21 [I a, I b] (.lit :: (.b false :: (.lit :: (.lit :: (.b true :: []))))) =
 some (I (⟨IntKind.i64.wrap (a.lo - b.hi), IntKind.i64.wrap (a.hi - b.lo), false⟩), [fineP [ivs [a, b]], (!(fineL [a, b])) = false, fineP [ivs [⟨IntKind.i64.wrap (a.lo - b.hi), IntKind.i64.wrap (a.hi - b.lo), false⟩]], (fineL [⟨IntKind.i64.wrap (a.lo - b.hi), IntKind.i64.wrap (a.hi - b.lo), false⟩]) = true]) := by kernel_rfl
theorem sub1_leaf (a b : Iv) (hf : fineL [a, b] = true) (er : (⟨IntKind.i64.wrap (a.lo - b.hi), IntKind.i64.wrap (a.hi - b.lo), false⟩ : Iv) = ⟨a.lo - b.hi, a.hi - b.lo, false⟩) (hg : fineL [(⟨IntKind.i64.wrap (a.lo - b.hi), IntKind.i64.wrap (a.hi - b.lo), false⟩ : Iv)] = true) : Gives P 21 #[I a, I b] (I (subI a b)) := by
 have R := sub1_run a b
 refine gives_of_run mo R (ps_cons (ivs_ok (by simp)) (ps_cons (neg_f hf) (ps_cons (ivs_ok (by simp)) (ps_cons hg ps_nil)))) ?_
 unfold subI
 rw [hf, ← er, told_ok (fine1 ▸ hg)]
 rfl
theorem sub2_run (a b : Iv) : runF P J1 3 21 [I a, I b] (.lit :: (.b false :: (.lit :: (.lit :: (.b false :: []))))) =
 some (I (⟨0, 0, true⟩), [fineP [ivs [a, b]], (!(fineL [a, b])) = false, fineP [ivs [⟨IntKind.i64.wrap (a.lo - b.hi), IntKind.i64.wrap (a.hi - b.lo), false⟩]], (fineL [⟨IntKind.i64.wrap (a.lo - b.hi), IntKind.i64.wrap (a.hi - b.lo), false⟩]) = false]) := by kernel_rfl
theorem sub2_leaf (a b : Iv) (hf : fineL [a, b] = true) (er : (⟨IntKind.i64.wrap (a.lo - b.hi), IntKind.i64.wrap (a.hi - b.lo), false⟩ : Iv) = ⟨a.lo - b.hi, a.hi - b.lo, false⟩) (hg : fineL [(⟨IntKind.i64.wrap (a.lo - b.hi), IntKind.i64.wrap (a.hi - b.lo), false⟩ : Iv)] = false) : Gives P 21 #[I a, I b] (I (subI a b)) := by
 have R := sub2_run a b
 refine gives_of_run mo R (ps_cons (ivs_ok (by simp)) (ps_cons (neg_f hf) (ps_cons (ivs_ok (by simp)) (ps_cons hg ps_nil)))) ?_
 unfold subI
 rw [hf, ← er, told_no (fine1 ▸ hg)]
 rfl
theorem sub_gives (args : List Value) (h : iP2 args) : Gives P 21 args.toArray ((two2 fun a b => I (subI a b)) args) := by
 unfold iP2 at h
 split at h
 · obtain ⟨⟨a, rfl⟩, b, rfl⟩ := h
   show Gives P _ #[I a, I b] (I (subI a b))
   cases hf : fineL [a, b] with
   | false => exact sub0_leaf a b hf
   | true =>
    have er : (⟨IntKind.i64.wrap (a.lo - b.hi), IntKind.i64.wrap (a.hi - b.lo), false⟩ : Iv) = ⟨a.lo - b.hi, a.hi - b.lo, false⟩ := by
     have h := fine2.1 hf
     have := fine_iff.1 h.1
     have := fine_iff.1 h.2
     rw [wr (by omega) (by omega), wr (by omega) (by omega)]
    cases hg : fineL [(⟨IntKind.i64.wrap (a.lo - b.hi), IntKind.i64.wrap (a.hi - b.lo), false⟩ : Iv)] with
    | true => exact sub1_leaf a b hf er hg
    | false => exact sub2_leaf a b hf er hg
 · exact h.elim
noncomputable def cSub : Ctr P := ⟨21, iP2, two2 fun a b => I (subI a b), sub_gives⟩
theorem meet0_run (a b : Iv) : runF P J1 3 103 [I a, I b] (.lit :: (.b true :: [])) =
 some (I (⟨0, 0, true⟩), [fineP [ivs [a, b]], (!(fineL [a, b])) = true]) := by kernel_rfl
theorem meet0_leaf (a b : Iv) (hf : fineL [a, b] = false) : Gives P 103 #[I a, I b] (I (meetI a b)) := by
 have R := meet0_run a b
 refine gives_of_run mo R (ps_cons (ivs_ok (by simp)) (ps_cons (neg_t hf) ps_nil)) ?_
 unfold meetI
 rw [hf]
 rfl
theorem meet1_run (a b : Iv) : runF P J1 3 103 [I a, I b] (.lit :: (.b false :: (.lit :: (.lit :: (.b true :: []))))) =
 some (I (⟨if b.lo > a.lo then b.lo else a.lo, if b.hi < a.hi then b.hi else a.hi, false⟩), [fineP [ivs [a, b]], (!(fineL [a, b])) = false, fineP [ivs [⟨if b.lo > a.lo then b.lo else a.lo, if b.hi < a.hi then b.hi else a.hi, false⟩]], (fineL [⟨if b.lo > a.lo then b.lo else a.lo, if b.hi < a.hi then b.hi else a.hi, false⟩]) = true]) := by kernel_rfl
theorem meet1_leaf (a b : Iv) (hf : fineL [a, b] = true) (er : (⟨if b.lo > a.lo then b.lo else a.lo, if b.hi < a.hi then b.hi else a.hi, false⟩ : Iv) = ⟨mx a.lo b.lo, mn a.hi b.hi, false⟩) (hg : fineL [(⟨if b.lo > a.lo then b.lo else a.lo, if b.hi < a.hi then b.hi else a.hi, false⟩ : Iv)] = true) : Gives P 103 #[I a, I b] (I (meetI a b)) := by
 have R := meet1_run a b
 refine gives_of_run mo R (ps_cons (ivs_ok (by simp)) (ps_cons (neg_f hf) (ps_cons (ivs_ok (by simp)) (ps_cons hg ps_nil)))) ?_
 unfold meetI
 rw [hf, ← er, told_ok (fine1 ▸ hg)]
 rfl
theorem meet2_run (a b : Iv) : runF P J1 3 103 [I a, I b] (.lit :: (.b false :: (.lit :: (.lit :: (.b false :: []))))) =
 some (I (⟨0, 0, true⟩), [fineP [ivs [a, b]], (!(fineL [a, b])) = false, fineP [ivs [⟨if b.lo > a.lo then b.lo else a.lo, if b.hi < a.hi then b.hi else a.hi, false⟩]], (fineL [⟨if b.lo > a.lo then b.lo else a.lo, if b.hi < a.hi then b.hi else a.hi, false⟩]) = false]) := by kernel_rfl
theorem meet2_leaf (a b : Iv) (hf : fineL [a, b] = true) (er : (⟨if b.lo > a.lo then b.lo else a.lo, if b.hi < a.hi then b.hi else a.hi, false⟩ : Iv) = ⟨mx a.lo b.lo, mn a.hi b.hi, false⟩) (hg : fineL [(⟨if b.lo > a.lo then b.lo else a.lo, if b.hi < a.hi then b.hi else a.hi, false⟩ : Iv)] = false) : Gives P 103 #[I a, I b] (I (meetI a b)) := by
 have R := meet2_run a b
 refine gives_of_run mo R (ps_cons (ivs_ok (by simp)) (ps_cons (neg_f hf) (ps_cons (ivs_ok (by simp)) (ps_cons hg ps_nil)))) ?_
 unfold meetI
 rw [hf, ← er, told_no (fine1 ▸ hg)]
 rfl
theorem meet_gives (args : List Value) (h : iP2 args) : Gives P 103 args.toArray ((two2 fun a b => I (meetI a b)) args) := by
 unfold iP2 at h
 split at h
 · obtain ⟨⟨a, rfl⟩, b, rfl⟩ := h
   show Gives P _ #[I a, I b] (I (meetI a b))
   cases hf : fineL [a, b] with
   | false => exact meet0_leaf a b hf
   | true =>
    have er : (⟨if b.lo > a.lo then b.lo else a.lo, if b.hi < a.hi then b.hi else a.hi, false⟩ : Iv) = ⟨mx a.lo b.lo, mn a.hi b.hi, false⟩ := by
     rfl
    cases hg : fineL [(⟨if b.lo > a.lo then b.lo else a.lo, if b.hi < a.hi then b.hi else a.hi, false⟩ : Iv)] with
    | true => exact meet1_leaf a b hf er hg
    | false => exact meet2_leaf a b hf er hg
 · exact h.elim
noncomputable def cMeet : Ctr P := ⟨103, iP2, two2 fun a b => I (meetI a b), meet_gives⟩
theorem point1_run (n : Int) : runF P J1 3 23 [.int .i64 n] (.lit :: (.lit :: (.lit :: (.b true :: [])))) =
 some (I (⟨n, n, false⟩), [fineP [.v (.slice none 0 0)], fineP [ivs [⟨n, n, false⟩]], (fineL [⟨n, n, false⟩]) = true]) := by kernel_rfl
theorem point1_leaf (n : Int) (hg : fineL [(⟨n, n, false⟩ : Iv)] = true) : Gives P 23 #[.int .i64 n] (I (pointI n)) := by
 have R := point1_run n
 refine gives_of_run mo R (ps_cons rfl (ps_cons (ivs_ok (by simp)) (ps_cons hg ps_nil))) ?_
 show _ = I (told (⟨n, n, false⟩ : Iv))
 rw [told_ok (fine1 ▸ hg)]
 all_goals rfl
theorem point2_run (n : Int) : runF P J1 3 23 [.int .i64 n] (.lit :: (.lit :: (.lit :: (.b false :: [])))) =
 some (I (⟨0, 0, true⟩), [fineP [.v (.slice none 0 0)], fineP [ivs [⟨n, n, false⟩]], (fineL [⟨n, n, false⟩]) = false]) := by kernel_rfl
theorem point2_leaf (n : Int) (hg : fineL [(⟨n, n, false⟩ : Iv)] = false) : Gives P 23 #[.int .i64 n] (I (pointI n)) := by
 have R := point2_run n
 refine gives_of_run mo R (ps_cons rfl (ps_cons (ivs_ok (by simp)) (ps_cons hg ps_nil))) ?_
 show _ = I (told (⟨n, n, false⟩ : Iv))
 rw [told_no (fine1 ▸ hg)]
 all_goals rfl
theorem point_gives (args : List Value) (h : nP1 args) : Gives P 23 args.toArray ((n1V fun n => I (pointI n)) args) := by
 unfold nP1 at h
 split at h
 · rename_i n
   cases hg : fineL [(⟨n, n, false⟩ : Iv)] with
   | true => exact point1_leaf n hg
   | false => exact point2_leaf n hg
 · exact h.elim
noncomputable def cPoint : Ctr P := ⟨23, nP1, n1V fun n => I (pointI n), point_gives⟩
theorem make1_run (n d : Int) : runF P J1 3 157 [.int .i64 n, .int .i64 d] (.lit :: (.lit :: (.lit :: (.b true :: [])))) =
 some (I (⟨if d < n then d else n, if d > n then d else n, false⟩), [fineP [.v (.slice none 0 0)], fineP [ivs [⟨if d < n then d else n, if d > n then d else n, false⟩]], (fineL [⟨if d < n then d else n, if d > n then d else n, false⟩]) = true]) := by kernel_rfl
theorem make1_leaf (n d : Int) (hg : fineL [(⟨if d < n then d else n, if d > n then d else n, false⟩ : Iv)] = true) : Gives P 157 #[.int .i64 n, .int .i64 d] (I (makeI n d)) := by
 have R := make1_run n d
 refine gives_of_run mo R (ps_cons rfl (ps_cons (ivs_ok (by simp)) (ps_cons hg ps_nil))) ?_
 show _ = I (told (⟨if d < n then d else n, if d > n then d else n, false⟩ : Iv))
 rw [told_ok (fine1 ▸ hg)]
 all_goals rfl
theorem make2_run (n d : Int) : runF P J1 3 157 [.int .i64 n, .int .i64 d] (.lit :: (.lit :: (.lit :: (.b false :: [])))) =
 some (I (⟨0, 0, true⟩), [fineP [.v (.slice none 0 0)], fineP [ivs [⟨if d < n then d else n, if d > n then d else n, false⟩]], (fineL [⟨if d < n then d else n, if d > n then d else n, false⟩]) = false]) := by kernel_rfl
theorem make2_leaf (n d : Int) (hg : fineL [(⟨if d < n then d else n, if d > n then d else n, false⟩ : Iv)] = false) : Gives P 157 #[.int .i64 n, .int .i64 d] (I (makeI n d)) := by
 have R := make2_run n d
 refine gives_of_run mo R (ps_cons rfl (ps_cons (ivs_ok (by simp)) (ps_cons hg ps_nil))) ?_
 show _ = I (told (⟨if d < n then d else n, if d > n then d else n, false⟩ : Iv))
 rw [told_no (fine1 ▸ hg)]
 all_goals rfl
theorem make_gives (args : List Value) (h : nP2 args) : Gives P 157 args.toArray ((n2V fun n d => I (makeI n d)) args) := by
 unfold nP2 at h
 split at h
 · rename_i n d
   cases hg : fineL [(⟨if d < n then d else n, if d > n then d else n, false⟩ : Iv)] with
   | true => exact make1_leaf n d hg
   | false => exact make2_leaf n d hg
 · exact h.elim
noncomputable def cMake : Ctr P := ⟨157, nP2, n2V fun n d => I (makeI n d), make_gives⟩
theorem mul0_run (a b : Iv) : runF P J1 3 24 [I a, I b] (.lit :: (.b true :: [])) =
 some (I (⟨0, 0, true⟩), [fineP [ivs [a, b]], (!(fineL [a, b])) = true]) := by kernel_rfl
theorem mul0_leaf (a b : Iv) (hf : fineL [a, b] = false) : Gives P 24 #[I a, I b] (I (mulI a b)) := by
 have R := mul0_run a b
 refine gives_of_run mo R (ps_cons (ivs_ok (by simp)) (ps_cons (neg_t hf) ps_nil)) ?_
 unfold mulI
 rw [hf]
 rfl
theorem mulf0_run (a b : Iv) : runF P J1 5 24 [I a, I b] (.lit :: (.b false :: (lits 6 (.b true :: (.lit :: (.b false :: [])))))) =
 some (I (⟨0, 0, true⟩), [fineP [ivs [a, b]], (!(fineL [a, b])) = false, byP [.int .i64 a.lo, .int .i64 b.lo, .int .i64 1073741824], (!(byOk a.lo b.lo 1073741824)) = true, (byOk a.lo b.lo 1073741824) = false]) := by kernel_rfl
theorem mulf0_leaf (a b : Iv) (hf : fineL [a, b] = true) (q0 : byOk a.lo b.lo 1073741824 = false) : Gives P 24 #[I a, I b] (I (mulI a b)) := by
 have h := fine2.1 hf
 obtain ⟨w1, w2⟩ := fine_wr h.1
 obtain ⟨w3, w4⟩ := fine_wr h.2
 have R := mulf0_run a b
 refine gives_of_run mo R (ps_cons (ivs_ok (by simp)) (ps_cons (neg_f hf) (ps_cons ⟨w1, w3, i64one⟩ (ps_cons (neg_t q0) (ps_cons q0 ps_nil))))) ?_
 unfold mulI
 rw [hf, q0]
 rfl
theorem mulf1_run (a b : Iv) : runF P J1 6 24 [I a, I b] (.lit :: (.b false :: (lits 6 (.b false :: (lits 4 (.b true :: (.b true :: (.lit :: (.b false :: []))))))))) =
 some (I (⟨0, 0, true⟩), [fineP [ivs [a, b]], (!(fineL [a, b])) = false, byP [.int .i64 a.lo, .int .i64 b.lo, .int .i64 1073741824], (!(byOk a.lo b.lo 1073741824)) = false, byP [.int .i64 a.lo, .int .i64 b.hi, .int .i64 1073741824], (byOk a.lo b.lo 1073741824) = true, (!(byOk a.lo b.hi 1073741824)) = true, (byOk a.lo b.hi 1073741824) = false]) := by kernel_rfl
theorem mulf1_leaf (a b : Iv) (hf : fineL [a, b] = true) (q0 : byOk a.lo b.lo 1073741824 = true) (q1 : byOk a.lo b.hi 1073741824 = false) : Gives P 24 #[I a, I b] (I (mulI a b)) := by
 have h := fine2.1 hf
 obtain ⟨w1, w2⟩ := fine_wr h.1
 obtain ⟨w3, w4⟩ := fine_wr h.2
 have R := mulf1_run a b
 refine gives_of_run mo R (ps_cons (ivs_ok (by simp)) (ps_cons (neg_f hf) (ps_cons ⟨w1, w3, i64one⟩ (ps_cons (neg_f q0) (ps_cons ⟨w1, w4, i64one⟩ (ps_cons q0 (ps_cons (neg_t q1) (ps_cons q1 ps_nil)))))))) ?_
 unfold mulI
 rw [hf, q0, q1]
 rfl
theorem mulf2_run (a b : Iv) : runF P J1 6 24 [I a, I b] (.lit :: (.b false :: (lits 6 (.b false :: (lits 4 (.b true :: (.b false :: (lits 4 (.b true :: (.b true :: (.lit :: (.b false :: [])))))))))))) =
 some (I (⟨0, 0, true⟩), [fineP [ivs [a, b]], (!(fineL [a, b])) = false, byP [.int .i64 a.lo, .int .i64 b.lo, .int .i64 1073741824], (!(byOk a.lo b.lo 1073741824)) = false, byP [.int .i64 a.lo, .int .i64 b.hi, .int .i64 1073741824], (byOk a.lo b.lo 1073741824) = true, (!(byOk a.lo b.hi 1073741824)) = false, byP [.int .i64 a.hi, .int .i64 b.lo, .int .i64 1073741824], (byOk a.lo b.hi 1073741824) = true, (!(byOk a.hi b.lo 1073741824)) = true, (byOk a.hi b.lo 1073741824) = false]) := by kernel_rfl
theorem mulf2_leaf (a b : Iv) (hf : fineL [a, b] = true) (q0 : byOk a.lo b.lo 1073741824 = true) (q1 : byOk a.lo b.hi 1073741824 = true) (q2 : byOk a.hi b.lo 1073741824 = false) : Gives P 24 #[I a, I b] (I (mulI a b)) := by
 have h := fine2.1 hf
 obtain ⟨w1, w2⟩ := fine_wr h.1
 obtain ⟨w3, w4⟩ := fine_wr h.2
 have R := mulf2_run a b
 refine gives_of_run mo R (ps_cons (ivs_ok (by simp)) (ps_cons (neg_f hf) (ps_cons ⟨w1, w3, i64one⟩ (ps_cons (neg_f q0) (ps_cons ⟨w1, w4, i64one⟩ (ps_cons q0 (ps_cons (neg_f q1) (ps_cons ⟨w2, w3, i64one⟩ (ps_cons q1 (ps_cons (neg_t q2) (ps_cons q2 ps_nil))))))))))) ?_
 unfold mulI
 rw [hf, q0, q1, q2]
 rfl
theorem mulf3_run (a b : Iv) : runF P J1 6 24 [I a, I b] (.lit :: (.b false :: (lits 6 (.b false :: (lits 4 (.b true :: (.b false :: (lits 4 (.b true :: (.b false :: (lits 4 (.b true :: (.b true :: (.lit :: (.b false :: []))))))))))))))) =
 some (I (⟨0, 0, true⟩), [fineP [ivs [a, b]], (!(fineL [a, b])) = false, byP [.int .i64 a.lo, .int .i64 b.lo, .int .i64 1073741824], (!(byOk a.lo b.lo 1073741824)) = false, byP [.int .i64 a.lo, .int .i64 b.hi, .int .i64 1073741824], (byOk a.lo b.lo 1073741824) = true, (!(byOk a.lo b.hi 1073741824)) = false, byP [.int .i64 a.hi, .int .i64 b.lo, .int .i64 1073741824], (byOk a.lo b.hi 1073741824) = true, (!(byOk a.hi b.lo 1073741824)) = false, byP [.int .i64 a.hi, .int .i64 b.hi, .int .i64 1073741824], (byOk a.hi b.lo 1073741824) = true, (!(byOk a.hi b.hi 1073741824)) = true, (byOk a.hi b.hi 1073741824) = false]) := by kernel_rfl
theorem mulf3_leaf (a b : Iv) (hf : fineL [a, b] = true) (q0 : byOk a.lo b.lo 1073741824 = true) (q1 : byOk a.lo b.hi 1073741824 = true) (q2 : byOk a.hi b.lo 1073741824 = true) (q3 : byOk a.hi b.hi 1073741824 = false) : Gives P 24 #[I a, I b] (I (mulI a b)) := by
 have h := fine2.1 hf
 obtain ⟨w1, w2⟩ := fine_wr h.1
 obtain ⟨w3, w4⟩ := fine_wr h.2
 have R := mulf3_run a b
 refine gives_of_run mo R (ps_cons (ivs_ok (by simp)) (ps_cons (neg_f hf) (ps_cons ⟨w1, w3, i64one⟩ (ps_cons (neg_f q0) (ps_cons ⟨w1, w4, i64one⟩ (ps_cons q0 (ps_cons (neg_f q1) (ps_cons ⟨w2, w3, i64one⟩ (ps_cons q1 (ps_cons (neg_f q2) (ps_cons ⟨w2, w4, i64one⟩ (ps_cons q2 (ps_cons (neg_t q3) (ps_cons q3 ps_nil)))))))))))))) ?_
 unfold mulI
 rw [hf, q0, q1, q2, q3]
 rfl
theorem mult_run (a b : Iv) : runF P J1 6 24 [I a, I b] (.lit :: (.b false :: (lits 6 (.b false :: (lits 4 (.b true :: (.b false :: (lits 4 (.b true :: (.b false :: (lits 4 (.b true :: (.b false :: (.lit :: (.lit :: (.lit :: (.b true :: (.lit :: (.b true :: []))))))))))))))))))) =
 some (I (⟨if byLo a.hi b.hi 1073741824 < if byLo a.hi b.lo 1073741824 < if byLo a.lo b.hi 1073741824 < if byLo a.lo b.lo 1073741824 < byLo a.lo b.lo 1073741824 then byLo a.lo b.lo 1073741824 else byLo a.lo b.lo 1073741824 then byLo a.lo b.hi 1073741824 else if byLo a.lo b.lo 1073741824 < byLo a.lo b.lo 1073741824 then byLo a.lo b.lo 1073741824 else byLo a.lo b.lo 1073741824 then byLo a.hi b.lo 1073741824 else if byLo a.lo b.hi 1073741824 < if byLo a.lo b.lo 1073741824 < byLo a.lo b.lo 1073741824 then byLo a.lo b.lo 1073741824 else byLo a.lo b.lo 1073741824 then byLo a.lo b.hi 1073741824 else if byLo a.lo b.lo 1073741824 < byLo a.lo b.lo 1073741824 then byLo a.lo b.lo 1073741824 else byLo a.lo b.lo 1073741824 then byLo a.hi b.hi 1073741824 else if byLo a.hi b.lo 1073741824 < if byLo a.lo b.hi 1073741824 < if byLo a.lo b.lo 1073741824 < byLo a.lo b.lo 1073741824 then byLo a.lo b.lo 1073741824 else byLo a.lo b.lo 1073741824 then byLo a.lo b.hi 1073741824 else if byLo a.lo b.lo 1073741824 < byLo a.lo b.lo 1073741824 then byLo a.lo b.lo 1073741824 else byLo a.lo b.lo 1073741824 then byLo a.hi b.lo 1073741824 else if byLo a.lo b.hi 1073741824 < if byLo a.lo b.lo 1073741824 < byLo a.lo b.lo 1073741824 then byLo a.lo b.lo 1073741824 else byLo a.lo b.lo 1073741824 then byLo a.lo b.hi 1073741824 else if byLo a.lo b.lo 1073741824 < byLo a.lo b.lo 1073741824 then byLo a.lo b.lo 1073741824 else byLo a.lo b.lo 1073741824, if byHi a.hi b.hi 1073741824 > if byHi a.hi b.lo 1073741824 > if byHi a.lo b.hi 1073741824 > if byHi a.lo b.lo 1073741824 > byHi a.lo b.lo 1073741824 then byHi a.lo b.lo 1073741824 else byHi a.lo b.lo 1073741824 then byHi a.lo b.hi 1073741824 else if byHi a.lo b.lo 1073741824 > byHi a.lo b.lo 1073741824 then byHi a.lo b.lo 1073741824 else byHi a.lo b.lo 1073741824 then byHi a.hi b.lo 1073741824 else if byHi a.lo b.hi 1073741824 > if byHi a.lo b.lo 1073741824 > byHi a.lo b.lo 1073741824 then byHi a.lo b.lo 1073741824 else byHi a.lo b.lo 1073741824 then byHi a.lo b.hi 1073741824 else if byHi a.lo b.lo 1073741824 > byHi a.lo b.lo 1073741824 then byHi a.lo b.lo 1073741824 else byHi a.lo b.lo 1073741824 then byHi a.hi b.hi 1073741824 else if byHi a.hi b.lo 1073741824 > if byHi a.lo b.hi 1073741824 > if byHi a.lo b.lo 1073741824 > byHi a.lo b.lo 1073741824 then byHi a.lo b.lo 1073741824 else byHi a.lo b.lo 1073741824 then byHi a.lo b.hi 1073741824 else if byHi a.lo b.lo 1073741824 > byHi a.lo b.lo 1073741824 then byHi a.lo b.lo 1073741824 else byHi a.lo b.lo 1073741824 then byHi a.hi b.lo 1073741824 else if byHi a.lo b.hi 1073741824 > if byHi a.lo b.lo 1073741824 > byHi a.lo b.lo 1073741824 then byHi a.lo b.lo 1073741824 else byHi a.lo b.lo 1073741824 then byHi a.lo b.hi 1073741824 else if byHi a.lo b.lo 1073741824 > byHi a.lo b.lo 1073741824 then byHi a.lo b.lo 1073741824 else byHi a.lo b.lo 1073741824, false⟩), [fineP [ivs [a, b]], (!(fineL [a, b])) = false, byP [.int .i64 a.lo, .int .i64 b.lo, .int .i64 1073741824], (!(byOk a.lo b.lo 1073741824)) = false, byP [.int .i64 a.lo, .int .i64 b.hi, .int .i64 1073741824], (byOk a.lo b.lo 1073741824) = true, (!(byOk a.lo b.hi 1073741824)) = false, byP [.int .i64 a.hi, .int .i64 b.lo, .int .i64 1073741824], (byOk a.lo b.hi 1073741824) = true, (!(byOk a.hi b.lo 1073741824)) = false, byP [.int .i64 a.hi, .int .i64 b.hi, .int .i64 1073741824], (byOk a.hi b.lo 1073741824) = true, (!(byOk a.hi b.hi 1073741824)) = false, (byOk a.hi b.hi 1073741824) = true, fineP [ivs [⟨if byLo a.hi b.hi 1073741824 < if byLo a.hi b.lo 1073741824 < if byLo a.lo b.hi 1073741824 < if byLo a.lo b.lo 1073741824 < byLo a.lo b.lo 1073741824 then byLo a.lo b.lo 1073741824 else byLo a.lo b.lo 1073741824 then byLo a.lo b.hi 1073741824 else if byLo a.lo b.lo 1073741824 < byLo a.lo b.lo 1073741824 then byLo a.lo b.lo 1073741824 else byLo a.lo b.lo 1073741824 then byLo a.hi b.lo 1073741824 else if byLo a.lo b.hi 1073741824 < if byLo a.lo b.lo 1073741824 < byLo a.lo b.lo 1073741824 then byLo a.lo b.lo 1073741824 else byLo a.lo b.lo 1073741824 then byLo a.lo b.hi 1073741824 else if byLo a.lo b.lo 1073741824 < byLo a.lo b.lo 1073741824 then byLo a.lo b.lo 1073741824 else byLo a.lo b.lo 1073741824 then byLo a.hi b.hi 1073741824 else if byLo a.hi b.lo 1073741824 < if byLo a.lo b.hi 1073741824 < if byLo a.lo b.lo 1073741824 < byLo a.lo b.lo 1073741824 then byLo a.lo b.lo 1073741824 else byLo a.lo b.lo 1073741824 then byLo a.lo b.hi 1073741824 else if byLo a.lo b.lo 1073741824 < byLo a.lo b.lo 1073741824 then byLo a.lo b.lo 1073741824 else byLo a.lo b.lo 1073741824 then byLo a.hi b.lo 1073741824 else if byLo a.lo b.hi 1073741824 < if byLo a.lo b.lo 1073741824 < byLo a.lo b.lo 1073741824 then byLo a.lo b.lo 1073741824 else byLo a.lo b.lo 1073741824 then byLo a.lo b.hi 1073741824 else if byLo a.lo b.lo 1073741824 < byLo a.lo b.lo 1073741824 then byLo a.lo b.lo 1073741824 else byLo a.lo b.lo 1073741824, if byHi a.hi b.hi 1073741824 > if byHi a.hi b.lo 1073741824 > if byHi a.lo b.hi 1073741824 > if byHi a.lo b.lo 1073741824 > byHi a.lo b.lo 1073741824 then byHi a.lo b.lo 1073741824 else byHi a.lo b.lo 1073741824 then byHi a.lo b.hi 1073741824 else if byHi a.lo b.lo 1073741824 > byHi a.lo b.lo 1073741824 then byHi a.lo b.lo 1073741824 else byHi a.lo b.lo 1073741824 then byHi a.hi b.lo 1073741824 else if byHi a.lo b.hi 1073741824 > if byHi a.lo b.lo 1073741824 > byHi a.lo b.lo 1073741824 then byHi a.lo b.lo 1073741824 else byHi a.lo b.lo 1073741824 then byHi a.lo b.hi 1073741824 else if byHi a.lo b.lo 1073741824 > byHi a.lo b.lo 1073741824 then byHi a.lo b.lo 1073741824 else byHi a.lo b.lo 1073741824 then byHi a.hi b.hi 1073741824 else if byHi a.hi b.lo 1073741824 > if byHi a.lo b.hi 1073741824 > if byHi a.lo b.lo 1073741824 > byHi a.lo b.lo 1073741824 then byHi a.lo b.lo 1073741824 else byHi a.lo b.lo 1073741824 then byHi a.lo b.hi 1073741824 else if byHi a.lo b.lo 1073741824 > byHi a.lo b.lo 1073741824 then byHi a.lo b.lo 1073741824 else byHi a.lo b.lo 1073741824 then byHi a.hi b.lo 1073741824 else if byHi a.lo b.hi 1073741824 > if byHi a.lo b.lo 1073741824 > byHi a.lo b.lo 1073741824 then byHi a.lo b.lo 1073741824 else byHi a.lo b.lo 1073741824 then byHi a.lo b.hi 1073741824 else if byHi a.lo b.lo 1073741824 > byHi a.lo b.lo 1073741824 then byHi a.lo b.lo 1073741824 else byHi a.lo b.lo 1073741824, false⟩]], (fineL [⟨if byLo a.hi b.hi 1073741824 < if byLo a.hi b.lo 1073741824 < if byLo a.lo b.hi 1073741824 < if byLo a.lo b.lo 1073741824 < byLo a.lo b.lo 1073741824 then byLo a.lo b.lo 1073741824 else byLo a.lo b.lo 1073741824 then byLo a.lo b.hi 1073741824 else if byLo a.lo b.lo 1073741824 < byLo a.lo b.lo 1073741824 then byLo a.lo b.lo 1073741824 else byLo a.lo b.lo 1073741824 then byLo a.hi b.lo 1073741824 else if byLo a.lo b.hi 1073741824 < if byLo a.lo b.lo 1073741824 < byLo a.lo b.lo 1073741824 then byLo a.lo b.lo 1073741824 else byLo a.lo b.lo 1073741824 then byLo a.lo b.hi 1073741824 else if byLo a.lo b.lo 1073741824 < byLo a.lo b.lo 1073741824 then byLo a.lo b.lo 1073741824 else byLo a.lo b.lo 1073741824 then byLo a.hi b.hi 1073741824 else if byLo a.hi b.lo 1073741824 < if byLo a.lo b.hi 1073741824 < if byLo a.lo b.lo 1073741824 < byLo a.lo b.lo 1073741824 then byLo a.lo b.lo 1073741824 else byLo a.lo b.lo 1073741824 then byLo a.lo b.hi 1073741824 else if byLo a.lo b.lo 1073741824 < byLo a.lo b.lo 1073741824 then byLo a.lo b.lo 1073741824 else byLo a.lo b.lo 1073741824 then byLo a.hi b.lo 1073741824 else if byLo a.lo b.hi 1073741824 < if byLo a.lo b.lo 1073741824 < byLo a.lo b.lo 1073741824 then byLo a.lo b.lo 1073741824 else byLo a.lo b.lo 1073741824 then byLo a.lo b.hi 1073741824 else if byLo a.lo b.lo 1073741824 < byLo a.lo b.lo 1073741824 then byLo a.lo b.lo 1073741824 else byLo a.lo b.lo 1073741824, if byHi a.hi b.hi 1073741824 > if byHi a.hi b.lo 1073741824 > if byHi a.lo b.hi 1073741824 > if byHi a.lo b.lo 1073741824 > byHi a.lo b.lo 1073741824 then byHi a.lo b.lo 1073741824 else byHi a.lo b.lo 1073741824 then byHi a.lo b.hi 1073741824 else if byHi a.lo b.lo 1073741824 > byHi a.lo b.lo 1073741824 then byHi a.lo b.lo 1073741824 else byHi a.lo b.lo 1073741824 then byHi a.hi b.lo 1073741824 else if byHi a.lo b.hi 1073741824 > if byHi a.lo b.lo 1073741824 > byHi a.lo b.lo 1073741824 then byHi a.lo b.lo 1073741824 else byHi a.lo b.lo 1073741824 then byHi a.lo b.hi 1073741824 else if byHi a.lo b.lo 1073741824 > byHi a.lo b.lo 1073741824 then byHi a.lo b.lo 1073741824 else byHi a.lo b.lo 1073741824 then byHi a.hi b.hi 1073741824 else if byHi a.hi b.lo 1073741824 > if byHi a.lo b.hi 1073741824 > if byHi a.lo b.lo 1073741824 > byHi a.lo b.lo 1073741824 then byHi a.lo b.lo 1073741824 else byHi a.lo b.lo 1073741824 then byHi a.lo b.hi 1073741824 else if byHi a.lo b.lo 1073741824 > byHi a.lo b.lo 1073741824 then byHi a.lo b.lo 1073741824 else byHi a.lo b.lo 1073741824 then byHi a.hi b.lo 1073741824 else if byHi a.lo b.hi 1073741824 > if byHi a.lo b.lo 1073741824 > byHi a.lo b.lo 1073741824 then byHi a.lo b.lo 1073741824 else byHi a.lo b.lo 1073741824 then byHi a.lo b.hi 1073741824 else if byHi a.lo b.lo 1073741824 > byHi a.lo b.lo 1073741824 then byHi a.lo b.lo 1073741824 else byHi a.lo b.lo 1073741824, false⟩]) = true]) := by kernel_rfl
theorem mult_leaf (a b : Iv) (hf : fineL [a, b] = true) (q0 : byOk a.lo b.lo 1073741824 = true) (q1 : byOk a.lo b.hi 1073741824 = true) (q2 : byOk a.hi b.lo 1073741824 = true) (q3 : byOk a.hi b.hi 1073741824 = true) (hg : fineL [mulR a b] = true) : Gives P 24 #[I a, I b] (I (mulI a b)) := by
 have h := fine2.1 hf
 obtain ⟨w1, w2⟩ := fine_wr h.1
 obtain ⟨w3, w4⟩ := fine_wr h.2
 have R := mult_run a b
 refine gives_of_run mo R (ps_cons (ivs_ok (by simp)) (ps_cons (neg_f hf) (ps_cons ⟨w1, w3, i64one⟩ (ps_cons (neg_f q0) (ps_cons ⟨w1, w4, i64one⟩ (ps_cons q0 (ps_cons (neg_f q1) (ps_cons ⟨w2, w3, i64one⟩ (ps_cons q1 (ps_cons (neg_f q2) (ps_cons ⟨w2, w4, i64one⟩ (ps_cons q2 (ps_cons (neg_f q3) (ps_cons q3 (ps_cons (ivs_ok (by simp)) (ps_cons hg ps_nil)))))))))))))))) ?_
 unfold mulI
 rw [hf, q0, q1, q2, q3, told_ok (fine1 ▸ hg)]
 rfl
theorem muln_run (a b : Iv) : runF P J1 6 24 [I a, I b] (.lit :: (.b false :: (lits 6 (.b false :: (lits 4 (.b true :: (.b false :: (lits 4 (.b true :: (.b false :: (lits 4 (.b true :: (.b false :: (.lit :: (.lit :: (.lit :: (.b true :: (.lit :: (.b false :: []))))))))))))))))))) =
 some (I (⟨0, 0, true⟩), [fineP [ivs [a, b]], (!(fineL [a, b])) = false, byP [.int .i64 a.lo, .int .i64 b.lo, .int .i64 1073741824], (!(byOk a.lo b.lo 1073741824)) = false, byP [.int .i64 a.lo, .int .i64 b.hi, .int .i64 1073741824], (byOk a.lo b.lo 1073741824) = true, (!(byOk a.lo b.hi 1073741824)) = false, byP [.int .i64 a.hi, .int .i64 b.lo, .int .i64 1073741824], (byOk a.lo b.hi 1073741824) = true, (!(byOk a.hi b.lo 1073741824)) = false, byP [.int .i64 a.hi, .int .i64 b.hi, .int .i64 1073741824], (byOk a.hi b.lo 1073741824) = true, (!(byOk a.hi b.hi 1073741824)) = false, (byOk a.hi b.hi 1073741824) = true, fineP [ivs [⟨if byLo a.hi b.hi 1073741824 < if byLo a.hi b.lo 1073741824 < if byLo a.lo b.hi 1073741824 < if byLo a.lo b.lo 1073741824 < byLo a.lo b.lo 1073741824 then byLo a.lo b.lo 1073741824 else byLo a.lo b.lo 1073741824 then byLo a.lo b.hi 1073741824 else if byLo a.lo b.lo 1073741824 < byLo a.lo b.lo 1073741824 then byLo a.lo b.lo 1073741824 else byLo a.lo b.lo 1073741824 then byLo a.hi b.lo 1073741824 else if byLo a.lo b.hi 1073741824 < if byLo a.lo b.lo 1073741824 < byLo a.lo b.lo 1073741824 then byLo a.lo b.lo 1073741824 else byLo a.lo b.lo 1073741824 then byLo a.lo b.hi 1073741824 else if byLo a.lo b.lo 1073741824 < byLo a.lo b.lo 1073741824 then byLo a.lo b.lo 1073741824 else byLo a.lo b.lo 1073741824 then byLo a.hi b.hi 1073741824 else if byLo a.hi b.lo 1073741824 < if byLo a.lo b.hi 1073741824 < if byLo a.lo b.lo 1073741824 < byLo a.lo b.lo 1073741824 then byLo a.lo b.lo 1073741824 else byLo a.lo b.lo 1073741824 then byLo a.lo b.hi 1073741824 else if byLo a.lo b.lo 1073741824 < byLo a.lo b.lo 1073741824 then byLo a.lo b.lo 1073741824 else byLo a.lo b.lo 1073741824 then byLo a.hi b.lo 1073741824 else if byLo a.lo b.hi 1073741824 < if byLo a.lo b.lo 1073741824 < byLo a.lo b.lo 1073741824 then byLo a.lo b.lo 1073741824 else byLo a.lo b.lo 1073741824 then byLo a.lo b.hi 1073741824 else if byLo a.lo b.lo 1073741824 < byLo a.lo b.lo 1073741824 then byLo a.lo b.lo 1073741824 else byLo a.lo b.lo 1073741824, if byHi a.hi b.hi 1073741824 > if byHi a.hi b.lo 1073741824 > if byHi a.lo b.hi 1073741824 > if byHi a.lo b.lo 1073741824 > byHi a.lo b.lo 1073741824 then byHi a.lo b.lo 1073741824 else byHi a.lo b.lo 1073741824 then byHi a.lo b.hi 1073741824 else if byHi a.lo b.lo 1073741824 > byHi a.lo b.lo 1073741824 then byHi a.lo b.lo 1073741824 else byHi a.lo b.lo 1073741824 then byHi a.hi b.lo 1073741824 else if byHi a.lo b.hi 1073741824 > if byHi a.lo b.lo 1073741824 > byHi a.lo b.lo 1073741824 then byHi a.lo b.lo 1073741824 else byHi a.lo b.lo 1073741824 then byHi a.lo b.hi 1073741824 else if byHi a.lo b.lo 1073741824 > byHi a.lo b.lo 1073741824 then byHi a.lo b.lo 1073741824 else byHi a.lo b.lo 1073741824 then byHi a.hi b.hi 1073741824 else if byHi a.hi b.lo 1073741824 > if byHi a.lo b.hi 1073741824 > if byHi a.lo b.lo 1073741824 > byHi a.lo b.lo 1073741824 then byHi a.lo b.lo 1073741824 else byHi a.lo b.lo 1073741824 then byHi a.lo b.hi 1073741824 else if byHi a.lo b.lo 1073741824 > byHi a.lo b.lo 1073741824 then byHi a.lo b.lo 1073741824 else byHi a.lo b.lo 1073741824 then byHi a.hi b.lo 1073741824 else if byHi a.lo b.hi 1073741824 > if byHi a.lo b.lo 1073741824 > byHi a.lo b.lo 1073741824 then byHi a.lo b.lo 1073741824 else byHi a.lo b.lo 1073741824 then byHi a.lo b.hi 1073741824 else if byHi a.lo b.lo 1073741824 > byHi a.lo b.lo 1073741824 then byHi a.lo b.lo 1073741824 else byHi a.lo b.lo 1073741824, false⟩]], (fineL [⟨if byLo a.hi b.hi 1073741824 < if byLo a.hi b.lo 1073741824 < if byLo a.lo b.hi 1073741824 < if byLo a.lo b.lo 1073741824 < byLo a.lo b.lo 1073741824 then byLo a.lo b.lo 1073741824 else byLo a.lo b.lo 1073741824 then byLo a.lo b.hi 1073741824 else if byLo a.lo b.lo 1073741824 < byLo a.lo b.lo 1073741824 then byLo a.lo b.lo 1073741824 else byLo a.lo b.lo 1073741824 then byLo a.hi b.lo 1073741824 else if byLo a.lo b.hi 1073741824 < if byLo a.lo b.lo 1073741824 < byLo a.lo b.lo 1073741824 then byLo a.lo b.lo 1073741824 else byLo a.lo b.lo 1073741824 then byLo a.lo b.hi 1073741824 else if byLo a.lo b.lo 1073741824 < byLo a.lo b.lo 1073741824 then byLo a.lo b.lo 1073741824 else byLo a.lo b.lo 1073741824 then byLo a.hi b.hi 1073741824 else if byLo a.hi b.lo 1073741824 < if byLo a.lo b.hi 1073741824 < if byLo a.lo b.lo 1073741824 < byLo a.lo b.lo 1073741824 then byLo a.lo b.lo 1073741824 else byLo a.lo b.lo 1073741824 then byLo a.lo b.hi 1073741824 else if byLo a.lo b.lo 1073741824 < byLo a.lo b.lo 1073741824 then byLo a.lo b.lo 1073741824 else byLo a.lo b.lo 1073741824 then byLo a.hi b.lo 1073741824 else if byLo a.lo b.hi 1073741824 < if byLo a.lo b.lo 1073741824 < byLo a.lo b.lo 1073741824 then byLo a.lo b.lo 1073741824 else byLo a.lo b.lo 1073741824 then byLo a.lo b.hi 1073741824 else if byLo a.lo b.lo 1073741824 < byLo a.lo b.lo 1073741824 then byLo a.lo b.lo 1073741824 else byLo a.lo b.lo 1073741824, if byHi a.hi b.hi 1073741824 > if byHi a.hi b.lo 1073741824 > if byHi a.lo b.hi 1073741824 > if byHi a.lo b.lo 1073741824 > byHi a.lo b.lo 1073741824 then byHi a.lo b.lo 1073741824 else byHi a.lo b.lo 1073741824 then byHi a.lo b.hi 1073741824 else if byHi a.lo b.lo 1073741824 > byHi a.lo b.lo 1073741824 then byHi a.lo b.lo 1073741824 else byHi a.lo b.lo 1073741824 then byHi a.hi b.lo 1073741824 else if byHi a.lo b.hi 1073741824 > if byHi a.lo b.lo 1073741824 > byHi a.lo b.lo 1073741824 then byHi a.lo b.lo 1073741824 else byHi a.lo b.lo 1073741824 then byHi a.lo b.hi 1073741824 else if byHi a.lo b.lo 1073741824 > byHi a.lo b.lo 1073741824 then byHi a.lo b.lo 1073741824 else byHi a.lo b.lo 1073741824 then byHi a.hi b.hi 1073741824 else if byHi a.hi b.lo 1073741824 > if byHi a.lo b.hi 1073741824 > if byHi a.lo b.lo 1073741824 > byHi a.lo b.lo 1073741824 then byHi a.lo b.lo 1073741824 else byHi a.lo b.lo 1073741824 then byHi a.lo b.hi 1073741824 else if byHi a.lo b.lo 1073741824 > byHi a.lo b.lo 1073741824 then byHi a.lo b.lo 1073741824 else byHi a.lo b.lo 1073741824 then byHi a.hi b.lo 1073741824 else if byHi a.lo b.hi 1073741824 > if byHi a.lo b.lo 1073741824 > byHi a.lo b.lo 1073741824 then byHi a.lo b.lo 1073741824 else byHi a.lo b.lo 1073741824 then byHi a.lo b.hi 1073741824 else if byHi a.lo b.lo 1073741824 > byHi a.lo b.lo 1073741824 then byHi a.lo b.lo 1073741824 else byHi a.lo b.lo 1073741824, false⟩]) = false]) := by kernel_rfl
theorem muln_leaf (a b : Iv) (hf : fineL [a, b] = true) (q0 : byOk a.lo b.lo 1073741824 = true) (q1 : byOk a.lo b.hi 1073741824 = true) (q2 : byOk a.hi b.lo 1073741824 = true) (q3 : byOk a.hi b.hi 1073741824 = true) (hg : fineL [mulR a b] = false) : Gives P 24 #[I a, I b] (I (mulI a b)) := by
 have h := fine2.1 hf
 obtain ⟨w1, w2⟩ := fine_wr h.1
 obtain ⟨w3, w4⟩ := fine_wr h.2
 have R := muln_run a b
 refine gives_of_run mo R (ps_cons (ivs_ok (by simp)) (ps_cons (neg_f hf) (ps_cons ⟨w1, w3, i64one⟩ (ps_cons (neg_f q0) (ps_cons ⟨w1, w4, i64one⟩ (ps_cons q0 (ps_cons (neg_f q1) (ps_cons ⟨w2, w3, i64one⟩ (ps_cons q1 (ps_cons (neg_f q2) (ps_cons ⟨w2, w4, i64one⟩ (ps_cons q2 (ps_cons (neg_f q3) (ps_cons q3 (ps_cons (ivs_ok (by simp)) (ps_cons hg ps_nil)))))))))))))))) ?_
 unfold mulI
 rw [hf, q0, q1, q2, q3, told_no (fine1 ▸ hg)]
 rfl
theorem mul_gives (args : List Value) (h : iP2 args) : Gives P 24 args.toArray ((two2 fun a b => I (mulI a b)) args) := by
 unfold iP2 at h
 split at h
 · obtain ⟨⟨a, rfl⟩, b, rfl⟩ := h
   cases hf : fineL [a, b] with
   | false => exact mul0_leaf a b hf
   | true =>
   cases q0 : byOk a.lo b.lo 1073741824 with
    | false => exact mulf0_leaf a b hf q0
    | true =>
   cases q1 : byOk a.lo b.hi 1073741824 with
    | false => exact mulf1_leaf a b hf q0 q1
    | true =>
   cases q2 : byOk a.hi b.lo 1073741824 with
    | false => exact mulf2_leaf a b hf q0 q1 q2
    | true =>
   cases q3 : byOk a.hi b.hi 1073741824 with
    | false => exact mulf3_leaf a b hf q0 q1 q2 q3
    | true =>
   cases hg : fineL [mulR a b] with
    | true => exact mult_leaf a b hf q0 q1 q2 q3 hg
    | false => exact muln_leaf a b hf q0 q1 q2 q3 hg
 · exact h.elim
noncomputable def cMul : Ctr P := ⟨24, iP2, two2 fun a b => I (mulI a b), mul_gives⟩
theorem part0_run (a : Iv) (n d : Int) : runF P J1 3 19 [I a, .int .i64 n, .int .i64 d] (.lit :: (.b true :: [])) =
 some (I (⟨0, 0, true⟩), [fineP [ivs [a]], (!(fineL [a])) = true]) := by kernel_rfl
theorem part0_leaf (a : Iv) (n d : Int) (_hn : I64 n) (_hd : I64 d) (hf : fineL [a] = false) : Gives P 19 #[I a, .int .i64 n, .int .i64 d] (I (partI a n d)) := by
 have R := part0_run a n d
 refine gives_of_run mo R (ps_cons (ivs_ok (by simp)) (ps_cons (neg_t hf) ps_nil)) ?_
 unfold partI
 rw [hf]
 rfl
theorem partf0_run (a : Iv) (n d : Int) : runF P J1 5 19 [I a, .int .i64 n, .int .i64 d] (.lit :: (.b false :: (lits 6 (.b true :: (.lit :: (.b false :: [])))))) =
 some (I (⟨0, 0, true⟩), [fineP [ivs [a]], (!(fineL [a])) = false, byP [.int .i64 a.lo, .int .i64 n, .int .i64 d], (!(byOk a.lo n d)) = true, (byOk a.lo n d) = false]) := by kernel_rfl
theorem partf0_leaf (a : Iv) (n d : Int) (hn : I64 n) (hd : I64 d) (hf : fineL [a] = true) (q0 : byOk a.lo n d = false) : Gives P 19 #[I a, .int .i64 n, .int .i64 d] (I (partI a n d)) := by
 have w := fine_wr (fine1 ▸ hf)
 obtain ⟨w1, w2⟩ := w
 have R := partf0_run a n d
 refine gives_of_run mo R (ps_cons (ivs_ok (by simp)) (ps_cons (neg_f hf) (ps_cons ⟨w1, hn, hd⟩ (ps_cons (neg_t q0) (ps_cons q0 ps_nil))))) ?_
 unfold partI
 rw [hf, q0]
 rfl
theorem partf1_run (a : Iv) (n d : Int) : runF P J1 6 19 [I a, .int .i64 n, .int .i64 d] (.lit :: (.b false :: (lits 6 (.b false :: (lits 4 (.b true :: (.b true :: (.lit :: (.b false :: []))))))))) =
 some (I (⟨0, 0, true⟩), [fineP [ivs [a]], (!(fineL [a])) = false, byP [.int .i64 a.lo, .int .i64 n, .int .i64 d], (!(byOk a.lo n d)) = false, byP [.int .i64 a.hi, .int .i64 n, .int .i64 d], (byOk a.lo n d) = true, (!(byOk a.hi n d)) = true, (byOk a.hi n d) = false]) := by kernel_rfl
theorem partf1_leaf (a : Iv) (n d : Int) (hn : I64 n) (hd : I64 d) (hf : fineL [a] = true) (q0 : byOk a.lo n d = true) (q1 : byOk a.hi n d = false) : Gives P 19 #[I a, .int .i64 n, .int .i64 d] (I (partI a n d)) := by
 have w := fine_wr (fine1 ▸ hf)
 obtain ⟨w1, w2⟩ := w
 have R := partf1_run a n d
 refine gives_of_run mo R (ps_cons (ivs_ok (by simp)) (ps_cons (neg_f hf) (ps_cons ⟨w1, hn, hd⟩ (ps_cons (neg_f q0) (ps_cons ⟨w2, hn, hd⟩ (ps_cons q0 (ps_cons (neg_t q1) (ps_cons q1 ps_nil)))))))) ?_
 unfold partI
 rw [hf, q0, q1]
 rfl
theorem partt_run (a : Iv) (n d : Int) : runF P J1 6 19 [I a, .int .i64 n, .int .i64 d] (.lit :: (.b false :: (lits 6 (.b false :: (lits 4 (.b true :: (.b false :: (.lit :: (.lit :: (.lit :: (.b true :: (.lit :: (.b true :: []))))))))))))) =
 some (I (⟨if byLo a.hi n d < if byLo a.lo n d < byLo a.lo n d then byLo a.lo n d else byLo a.lo n d then byLo a.hi n d else if byLo a.lo n d < byLo a.lo n d then byLo a.lo n d else byLo a.lo n d, if byHi a.hi n d > if byHi a.lo n d > byHi a.lo n d then byHi a.lo n d else byHi a.lo n d then byHi a.hi n d else if byHi a.lo n d > byHi a.lo n d then byHi a.lo n d else byHi a.lo n d, false⟩), [fineP [ivs [a]], (!(fineL [a])) = false, byP [.int .i64 a.lo, .int .i64 n, .int .i64 d], (!(byOk a.lo n d)) = false, byP [.int .i64 a.hi, .int .i64 n, .int .i64 d], (byOk a.lo n d) = true, (!(byOk a.hi n d)) = false, (byOk a.hi n d) = true, fineP [ivs [⟨if byLo a.hi n d < if byLo a.lo n d < byLo a.lo n d then byLo a.lo n d else byLo a.lo n d then byLo a.hi n d else if byLo a.lo n d < byLo a.lo n d then byLo a.lo n d else byLo a.lo n d, if byHi a.hi n d > if byHi a.lo n d > byHi a.lo n d then byHi a.lo n d else byHi a.lo n d then byHi a.hi n d else if byHi a.lo n d > byHi a.lo n d then byHi a.lo n d else byHi a.lo n d, false⟩]], (fineL [⟨if byLo a.hi n d < if byLo a.lo n d < byLo a.lo n d then byLo a.lo n d else byLo a.lo n d then byLo a.hi n d else if byLo a.lo n d < byLo a.lo n d then byLo a.lo n d else byLo a.lo n d, if byHi a.hi n d > if byHi a.lo n d > byHi a.lo n d then byHi a.lo n d else byHi a.lo n d then byHi a.hi n d else if byHi a.lo n d > byHi a.lo n d then byHi a.lo n d else byHi a.lo n d, false⟩]) = true]) := by kernel_rfl
theorem partt_leaf (a : Iv) (n d : Int) (hn : I64 n) (hd : I64 d) (hf : fineL [a] = true) (q0 : byOk a.lo n d = true) (q1 : byOk a.hi n d = true) (hg : fineL [partR a n d] = true) : Gives P 19 #[I a, .int .i64 n, .int .i64 d] (I (partI a n d)) := by
 have w := fine_wr (fine1 ▸ hf)
 obtain ⟨w1, w2⟩ := w
 have R := partt_run a n d
 refine gives_of_run mo R (ps_cons (ivs_ok (by simp)) (ps_cons (neg_f hf) (ps_cons ⟨w1, hn, hd⟩ (ps_cons (neg_f q0) (ps_cons ⟨w2, hn, hd⟩ (ps_cons q0 (ps_cons (neg_f q1) (ps_cons q1 (ps_cons (ivs_ok (by simp)) (ps_cons hg ps_nil)))))))))) ?_
 unfold partI
 rw [hf, q0, q1, told_ok (fine1 ▸ hg)]
 rfl
theorem partn_run (a : Iv) (n d : Int) : runF P J1 6 19 [I a, .int .i64 n, .int .i64 d] (.lit :: (.b false :: (lits 6 (.b false :: (lits 4 (.b true :: (.b false :: (.lit :: (.lit :: (.lit :: (.b true :: (.lit :: (.b false :: []))))))))))))) =
 some (I (⟨0, 0, true⟩), [fineP [ivs [a]], (!(fineL [a])) = false, byP [.int .i64 a.lo, .int .i64 n, .int .i64 d], (!(byOk a.lo n d)) = false, byP [.int .i64 a.hi, .int .i64 n, .int .i64 d], (byOk a.lo n d) = true, (!(byOk a.hi n d)) = false, (byOk a.hi n d) = true, fineP [ivs [⟨if byLo a.hi n d < if byLo a.lo n d < byLo a.lo n d then byLo a.lo n d else byLo a.lo n d then byLo a.hi n d else if byLo a.lo n d < byLo a.lo n d then byLo a.lo n d else byLo a.lo n d, if byHi a.hi n d > if byHi a.lo n d > byHi a.lo n d then byHi a.lo n d else byHi a.lo n d then byHi a.hi n d else if byHi a.lo n d > byHi a.lo n d then byHi a.lo n d else byHi a.lo n d, false⟩]], (fineL [⟨if byLo a.hi n d < if byLo a.lo n d < byLo a.lo n d then byLo a.lo n d else byLo a.lo n d then byLo a.hi n d else if byLo a.lo n d < byLo a.lo n d then byLo a.lo n d else byLo a.lo n d, if byHi a.hi n d > if byHi a.lo n d > byHi a.lo n d then byHi a.lo n d else byHi a.lo n d then byHi a.hi n d else if byHi a.lo n d > byHi a.lo n d then byHi a.lo n d else byHi a.lo n d, false⟩]) = false]) := by kernel_rfl
theorem partn_leaf (a : Iv) (n d : Int) (hn : I64 n) (hd : I64 d) (hf : fineL [a] = true) (q0 : byOk a.lo n d = true) (q1 : byOk a.hi n d = true) (hg : fineL [partR a n d] = false) : Gives P 19 #[I a, .int .i64 n, .int .i64 d] (I (partI a n d)) := by
 have w := fine_wr (fine1 ▸ hf)
 obtain ⟨w1, w2⟩ := w
 have R := partn_run a n d
 refine gives_of_run mo R (ps_cons (ivs_ok (by simp)) (ps_cons (neg_f hf) (ps_cons ⟨w1, hn, hd⟩ (ps_cons (neg_f q0) (ps_cons ⟨w2, hn, hd⟩ (ps_cons q0 (ps_cons (neg_f q1) (ps_cons q1 (ps_cons (ivs_ok (by simp)) (ps_cons hg ps_nil)))))))))) ?_
 unfold partI
 rw [hf, q0, q1, told_no (fine1 ▸ hg)]
 rfl
theorem part_gives (args : List Value) (h : partP args) : Gives P 19 args.toArray ((partV) args) := by
 unfold partP at h
 split at h
 · rename_i n d
   obtain ⟨⟨a, rfl⟩, hn, hd⟩ := h
   cases hf : fineL [a] with
   | false => exact part0_leaf a n d hn hd hf
   | true =>
   cases q0 : byOk a.lo n d with
    | false => exact partf0_leaf a n d hn hd hf q0
    | true =>
   cases q1 : byOk a.hi n d with
    | false => exact partf1_leaf a n d hn hd hf q0 q1
    | true =>
   cases hg : fineL [partR a n d] with
    | true => exact partt_leaf a n d hn hd hf q0 q1 hg
    | false => exact partn_leaf a n d hn hd hf q0 q1 hg
 · exact h.elim
noncomputable def cPart : Ctr P := ⟨19, partP, partV, part_gives⟩
end Go.Iv
/-
 ival: Of, Hull, Holds. Printed by ivD.py.
-/
namespace Go.Iv
open Go Go.RowKit Go.Sx Go.Nm Go.Wd Go.Qt Go.Proofs
theorem tdiv_small {w : Int} (h1 : -1152921504606846976 ≤ w) (h2 : w ≤ 1152921504606846976) : -1073741824 ≤ w.tdiv 1073741824 ∧ w.tdiv 1073741824 ≤ 1073741824 := by
 have h4 : (w.tdiv 1073741824).natAbs = w.natAbs / 1073741824 := Int.natAbs_tdiv w 1073741824
 have h3 : w.natAbs / 1073741824 ≤ 1073741824 := by
  have : w.natAbs ≤ 1073741824 * 1073741824 := by omega
  omega
 omega
def inW (n : Int) : Bool := decide (n ≥ -1152921504606846976) && decide (n ≤ 1152921504606846976)
theorem inW_iff {n : Int} : inW n = true ↔ -1152921504606846976 ≤ n ∧ n ≤ 1152921504606846976 := by unfold inW; simp
def winP : List Value → Prop
 | [.int .i64 _] => True
 | _ => False
theorem win0_run (n : Int) : runF P V0 1 71 [.int .i64 n] (.b false :: []) =
 some (.bool false, [(decide (n ≥ -1152921504606846976)) = false]) := by kernel_rfl
theorem win0_leaf (n : Int) (h : decide (n ≥ -1152921504606846976) = false) : Gives P 71 #[.int .i64 n] (.bool (inW n)) := by
 have R := win0_run n
 refine gives_of_run mo R (ps_cons h ps_nil) ?_
 unfold inW
 rw [h]
 rfl
theorem win1_run (n : Int) : runF P V0 1 71 [.int .i64 n] (.b true :: []) =
 some (.bool (decide (n ≤ 1152921504606846976)), [(decide (n ≥ -1152921504606846976)) = true]) := by kernel_rfl
theorem win1_leaf (n : Int) (h : decide (n ≥ -1152921504606846976) = true) : Gives P 71 #[.int .i64 n] (.bool (inW n)) := by
 have R := win1_run n
 refine gives_of_run mo R (ps_cons h ps_nil) ?_
 unfold inW
 rw [h]
 rfl
theorem win_gives (args : List Value) (h : winP args) : Gives P 71 args.toArray ((n1V fun n => .bool (inW n)) args) := by
 unfold winP at h
 split at h
 · rename_i n
   cases h : decide (n ≥ -1152921504606846976) with
   | false => exact win0_leaf n h
   | true => exact win1_leaf n h
 · exact h.elim
noncomputable def cWithin : Ctr P := ⟨71, winP, n1V fun n => .bool (inW n), win_gives⟩
noncomputable def J1w : Env P := ⟨⟨[cWithin], [cFine]⟩, [], 10, []⟩
theorem of0_run (n : Int) : runF P J1w 3 36 [.int .i64 n] (.lit :: (.b false :: [])) =
 some (I (⟨0, 0, true⟩), [fineP [.v (.slice none 0 0)], winP [.int .i64 n], (inW n) = false]) := by kernel_rfl
theorem of0_leaf (n : Int) (q0 : inW n = false) (hr : ofI n = bd) : Gives P 36 #[.int .i64 n] (I (ofI n)) := by
 have R := of0_run n
 refine gives_of_run mo R (ps_cons rfl (ps_cons trivial (ps_cons q0 ps_nil))) ?_
 rw [hr]
 all_goals rfl
theorem of1_run (n : Int) : runF P J1w 3 36 [.int .i64 n] (.lit :: (.b true :: (.b false :: []))) =
 some (I (⟨0, 0, true⟩), [fineP [.v (.slice none 0 0)], winP [.int .i64 n], (inW n) = true, winP [.int .i64 (IntKind.i64.wrap (n * 1073741824))], (inW (IntKind.i64.wrap (n * 1073741824))) = false]) := by kernel_rfl
theorem of1_leaf (n : Int) (q0 : inW n = true) (q1 : inW (IntKind.i64.wrap (n * 1073741824)) = false) (hr : ofI n = bd) : Gives P 36 #[.int .i64 n] (I (ofI n)) := by
 have R := of1_run n
 refine gives_of_run mo R (ps_cons rfl (ps_cons trivial (ps_cons q0 (ps_cons trivial (ps_cons q1 ps_nil))))) ?_
 rw [hr]
 all_goals rfl
theorem of2_run (n : Int) : runF P J1w 3 36 [.int .i64 n] (.lit :: (.b true :: (.b true :: (.b false :: [])))) =
 some (I (⟨0, 0, true⟩), [fineP [.v (.slice none 0 0)], winP [.int .i64 n], (inW n) = true, winP [.int .i64 (IntKind.i64.wrap (n * 1073741824))], (inW (IntKind.i64.wrap (n * 1073741824))) = true, (IntKind.i64.wrap ((IntKind.i64.wrap (n * 1073741824)).tdiv 1073741824) == n) = false]) := by kernel_rfl
theorem of2_leaf (n : Int) (q0 : inW n = true) (q1 : inW (IntKind.i64.wrap (n * 1073741824)) = true) (q2 : (IntKind.i64.wrap ((IntKind.i64.wrap (n * 1073741824)).tdiv 1073741824) == n) = false) (hr : ofI n = bd) : Gives P 36 #[.int .i64 n] (I (ofI n)) := by
 have R := of2_run n
 refine gives_of_run mo R (ps_cons rfl (ps_cons trivial (ps_cons q0 (ps_cons trivial (ps_cons q1 (ps_cons q2 ps_nil)))))) ?_
 rw [hr]
 all_goals rfl
theorem of5_run (n : Int) : runF P J1w 3 36 [.int .i64 n] (.lit :: (.b true :: (.b true :: (.b true :: (.lit :: (.b true :: [])))))) =
 some (I (⟨IntKind.i64.wrap (n * 1073741824), IntKind.i64.wrap (n * 1073741824), false⟩), [fineP [.v (.slice none 0 0)], winP [.int .i64 n], (inW n) = true, winP [.int .i64 (IntKind.i64.wrap (n * 1073741824))], (inW (IntKind.i64.wrap (n * 1073741824))) = true, (IntKind.i64.wrap ((IntKind.i64.wrap (n * 1073741824)).tdiv 1073741824) == n) = true, fineP [ivs [⟨IntKind.i64.wrap (n * 1073741824), IntKind.i64.wrap (n * 1073741824), false⟩]], (fineL [⟨IntKind.i64.wrap (n * 1073741824), IntKind.i64.wrap (n * 1073741824), false⟩]) = true]) := by kernel_rfl
theorem of5_leaf (n : Int) (q0 : inW n = true) (q1 : inW (IntKind.i64.wrap (n * 1073741824)) = true) (q2 : (IntKind.i64.wrap ((IntKind.i64.wrap (n * 1073741824)).tdiv 1073741824) == n) = true) (hg : fineL [⟨IntKind.i64.wrap (n * 1073741824), IntKind.i64.wrap (n * 1073741824), false⟩] = true) (hr : ofI n = ⟨IntKind.i64.wrap (n * 1073741824), IntKind.i64.wrap (n * 1073741824), false⟩) : Gives P 36 #[.int .i64 n] (I (ofI n)) := by
 have R := of5_run n
 refine gives_of_run mo R (ps_cons rfl (ps_cons trivial (ps_cons q0 (ps_cons trivial (ps_cons q1 (ps_cons q2 (ps_cons (ivs_ok (by simp)) (ps_cons hg ps_nil)))))))) ?_
 rw [hr]
 all_goals rfl
theorem ofI_in {n : Int} (h1 : -1073741824 ≤ n) (h2 : n ≤ 1073741824) : ofI n = ⟨n * 1073741824, n * 1073741824, false⟩ := by
 unfold ofI; rw [decide_eq_true h1, decide_eq_true h2]; rfl
theorem ofI_out {n : Int} (h : ¬ (-1073741824 ≤ n ∧ n ≤ 1073741824)) : ofI n = bd := by
 unfold ofI
 rw [show (decide (-1073741824 ≤ n) && decide (n ≤ 1073741824)) = false by rw [← Bool.decide_and]; exact decide_eq_false h]
 rfl
theorem of_gives (args : List Value) (h : nP1 args) : Gives P 36 args.toArray ((n1V fun n => I (ofI n)) args) := by
 unfold nP1 at h
 split at h
 · rename_i n
   show Gives P _ #[.int .i64 n] (I (ofI n))
   by_cases hr : -1073741824 ≤ n ∧ n ≤ 1073741824
   · obtain ⟨h1, h2⟩ := hr
     have w : IntKind.i64.wrap (n * 1073741824) = n * 1073741824 := wr (by omega) (by omega)
     have e : (n * 1073741824).tdiv 1073741824 = n := Int.mul_tdiv_cancel n (by decide)
     refine of5_leaf n (inW_iff.2 (by omega)) (inW_iff.2 (by omega)) ?_ ?_ ?_
     · rw [w, e, wr (by omega) (by omega)]; exact beq_self_eq_true n
     · rw [w, fine1]; exact fine_iff.2 ⟨rfl, by show _ ≤ n * 1073741824; omega, Int.le_refl _, by show n * 1073741824 ≤ _; omega⟩
     · rw [w]; exact ofI_in h1 h2
   · have hb := ofI_out hr
     cases q0 : inW n with
     | false => exact of0_leaf n q0 hb
     | true =>
     cases q1 : inW (IntKind.i64.wrap (n * 1073741824)) with
     | false => exact of1_leaf n q0 q1 hb
     | true =>
     cases q2 : (IntKind.i64.wrap ((IntKind.i64.wrap (n * 1073741824)).tdiv 1073741824) == n) with
     | false => exact of2_leaf n q0 q1 q2 hb
     | true =>
     exfalso
     have t := tdiv_small (inW_iff.1 q1).1 (inW_iff.1 q1).2
     rw [wr (by omega) (by omega)] at q2
     have := eq_of_beq q2
     omega
 · exact h.elim
noncomputable def cOf : Ctr P := ⟨36, nP1, n1V fun n => I (ofI n), of_gives⟩
def hk (l : Nat → Iv) : Nat → Iv
 | 0 => l 0
 | k + 1 => ⟨mn (hk l k).lo (l (k + 1)).lo, mx (hk l k).hi (l (k + 1)).hi, (hk l k).bad⟩
noncomputable def J2 : Env P := ⟨⟨[], [cFine]⟩, [], 10, []⟩
noncomputable def hb : Code := bodyOf (innerOf P 158 0)
noncomputable def hl : Code := (findLabel hb 0).getD .skip
def h0 (n : Nat) (l : Nat → Iv) : St := ⟨[(0, .row 900), (2, .ptr 1 0)], [(1, (.whole (I (⟨0, 0, false⟩)), 23))], [], [900, 1, 0], [(900, some ⟨23, 3, n, fun j => I (l j), false⟩)]⟩
def hs (n : Nat) (l : Nat → Iv) (k : Nat) : St := ⟨[(0, .row 900), (2, .ptr 1 0)], [(1, (.whole (I (hk l k)), 23))], [], [900, 1, 0], [(900, some ⟨23, 3, n - k, fun j => I (l (k + j)), false⟩)]⟩
def hz (n : Nat) (l : Nat → Iv) : St := ⟨[(0, .row 900), (2, .ptr 1 0)], [(1, (.whole (I (hk l (n - 1))), 23))], [], [900, 1, 0], [(900, some ⟨23, 3, 0, fun j => I (l j), false⟩)]⟩
theorem h0g (n : Nat) (l : Nat → Iv) (k0 : Nat) : stepF P J2 3 37 hb (h0 n l) (.b false :: (.b false :: (.b true :: []))) 1000 (fun _ => some (hs n l 1)) k0 =
 some (.goto 0, k0, [(((n : Nat) : Int) == 0) = false, fineP [.row ⟨23, 3, n, fun j => I (l j), false⟩], (!(fineL (rowL n fun j => I (l j)))) = false, 0 < n, 0 < n, 1 ≤ n, n ≤ n, (decide (((n - 1 : Nat) : Int) > 0)) = true, 0 < n - 1, 0 < n - 1, 0 < n - 1, 0 < n - 1, (.row 1013 : SV) = .row 1013, (.ptr 1 0 : SV) = .ptr 1 0, (.int .i64 (if (l 1).lo < (l 0).lo then (l 1).lo else (l 0).lo) : Value) = .int .i64 ((hk l 1).lo), (.int .i64 (if (l 1).hi > (l 0).hi then (l 1).hi else (l 0).hi) : Value) = .int .i64 ((hk l 1).hi), (.bool ((l 0).bad) : Value) = .bool ((hk l 1).bad), n - 1 = n - 1, ∀ j, j < n - 1 → I (l (1 + j)) = I (l (1 + j))]) := by kernel_rfl
theorem h0z (n : Nat) (l : Nat → Iv) (k0 : Nat) : stepF P J2 3 37 hb (h0 n l) (.b false :: (.b false :: (.b false :: []))) 1000 (fun _ => some (hz n l)) k0 =
 some (.ret, k0, [(((n : Nat) : Int) == 0) = false, fineP [.row ⟨23, 3, n, fun j => I (l j), false⟩], (!(fineL (rowL n fun j => I (l j)))) = false, 0 < n, 0 < n, 1 ≤ n, n ≤ n, (decide (((n - 1 : Nat) : Int) > 0)) = false, (.row 1013 : SV) = .row 1013, (.ptr 1 0 : SV) = .ptr 1 0, (I (l 0) : Value) = I (hk l (n - 1)), n - 1 = 0, ∀ j, j < 0 → I (l (1 + j)) = I (l j)]) := by kernel_rfl
theorem hsg (n : Nat) (l : Nat → Iv) (k : Nat) (k0 : Nat) : stepF P J2 3 37 hl (hs n l k) (.b true :: []) 1000 (fun _ => some (hs n l (k + 1))) k0 =
 some (.goto 0, k0, [1 ≤ n - k, n - k ≤ n - k, (decide (((n - k - 1 : Nat) : Int) > 0)) = true, 0 < n - k - 1, 0 < n - k - 1, 0 < n - k - 1, 0 < n - k - 1, (.row 1001 : SV) = .row 1001, (.ptr 1 0 : SV) = .ptr 1 0, (.int .i64 (if (l (k + 1)).lo < (hk l k).lo then (l (k + 1)).lo else (hk l k).lo) : Value) = .int .i64 ((hk l (k + 1)).lo), (.int .i64 (if (l (k + 1)).hi > (hk l k).hi then (l (k + 1)).hi else (hk l k).hi) : Value) = .int .i64 ((hk l (k + 1)).hi), (.bool ((hk l k).bad) : Value) = .bool ((hk l (k + 1)).bad), n - k - 1 = n - (k + 1), ∀ j, j < n - (k + 1) → I (l (k + (1 + j))) = I (l (k + 1 + j))]) := by kernel_rfl
theorem hsz (n : Nat) (l : Nat → Iv) (k : Nat) (k0 : Nat) : stepF P J2 3 37 hl (hs n l k) (.b false :: []) 1000 (fun _ => some (hz n l)) k0 =
 some (.ret, k0, [1 ≤ n - k, n - k ≤ n - k, (decide (((n - k - 1 : Nat) : Int) > 0)) = false, (.row 1001 : SV) = .row 1001, (.ptr 1 0 : SV) = .ptr 1 0, (I (hk l k) : Value) = I (hk l (n - 1)), n - k - 1 = 0, ∀ j, j < 0 → I (l (k + (1 + j))) = I (l j)]) := by kernel_rfl
theorem n0 {n : Nat} (h : 1 ≤ n) : (((n : Nat) : Int) == 0) = false := by rw [beq_eq_false_iff_ne]; omega
noncomputable def hullS (n : Nat) (l : Nat → Iv) (hn : n ≤ 1000000) (h1 : 1 ≤ n) (hf : fineL (rowL n fun j => I (l j)) = true) : CodeC P :=
 scopeC mo J2 (by rfl) 3 37 hb hl 0 (by kernel_rfl) [900, 1, 0] (h0 n l) (hs n l) (fun k => 1 ≤ k ∧ k < n) (fun k => n - k) .ret (hz n l) (by simp) rfl (fun _ => rfl) rfl (by kernel_rfl) (fun _ => by kernel_rfl) (by kernel_rfl) [900] rfl (fun _ => rfl) rfl
  (by
   by_cases h2 : 1 < n
   · exact step_run (h0g n l) (ps_cons (n0 (by omega)) (ps_cons ⟨rfl, rfl, hn, fun j _ => ⟨_, rfl⟩⟩ (ps_cons (neg_f hf) (ps_cons (by omega) (ps_cons (by omega) (ps_cons (by omega) (ps_cons (by omega) (ps_cons (decide_eq_true (by omega)) (ps_cons (by omega) (ps_cons (by omega) (ps_cons (by omega) (ps_cons (by omega) (ps_cons rfl (ps_cons rfl (ps_cons rfl (ps_cons rfl (ps_cons rfl (ps_cons (by omega) (ps_cons (fun _ _ => rfl) ps_nil))))))))))))))))))) rfl fun S1 hk => .inl ⟨rfl, 1, ⟨Nat.le_refl _, h2⟩, hk⟩
   · exact step_run (h0z n l) (ps_cons (n0 (by omega)) (ps_cons ⟨rfl, rfl, hn, fun j _ => ⟨_, rfl⟩⟩ (ps_cons (neg_f hf) (ps_cons (by omega) (ps_cons (by omega) (ps_cons (by omega) (ps_cons (by omega) (ps_cons (decide_eq_false (by omega)) (ps_cons rfl (ps_cons rfl (ps_cons (by rw [show n - 1 = 0 by omega]; rfl) (ps_cons (by omega) (ps_cons (fun j hj => absurd hj (Nat.not_lt_zero j)) ps_nil))))))))))))) rfl fun S1 hk => .inr ⟨rfl, hk⟩)
  (fun k hk => by
   obtain ⟨k1, k2⟩ := hk
   by_cases h2 : k + 1 < n
   · exact step_run (hsg n l k) (ps_cons (by omega) (ps_cons (by omega) (ps_cons (decide_eq_true (by omega)) (ps_cons (by omega) (ps_cons (by omega) (ps_cons (by omega) (ps_cons (by omega) (ps_cons rfl (ps_cons rfl (ps_cons rfl (ps_cons rfl (ps_cons rfl (ps_cons (by omega) (ps_cons (fun j _ => by rw [Nat.add_assoc]) ps_nil)))))))))))))) rfl fun S1 hk => .inl ⟨rfl, k + 1, ⟨by omega, h2⟩, by omega, hk⟩
   · exact step_run (hsz n l k) (ps_cons (by omega) (ps_cons (by omega) (ps_cons (decide_eq_false (by omega)) (ps_cons rfl (ps_cons rfl (ps_cons (by rw [show n - 1 = k by omega]) (ps_cons (by omega) (ps_cons (fun j hj => absurd hj (Nat.not_lt_zero j)) ps_nil)))))))) rfl fun S1 hk => .inr ⟨rfl, hk⟩)
noncomputable def J3 (n : Nat) (l : Nat → Iv) (hn : n ≤ 1000000) (h1 : 1 ≤ n) (hf : fineL (rowL n fun j => I (l j)) = true) : Env P := ⟨⟨[], []⟩, [hullS n l hn h1 hf], 10, []⟩
theorem hullN_run  : runD P J2 2 158 [.v (.slice none 0 0)] [] =
 some (I (⟨0, 0, true⟩), []) := by kernel_rfl
theorem hullZ_run (n : Nat) (el : Nat → Value) : runD P J2 2 158 [.row ⟨23, 3, n, el, false⟩] (.lit :: (.b true :: [])) =
 some (I (⟨0, 0, true⟩), [(((n : Nat) : Int) == 0) = true]) := by kernel_rfl
theorem hullB_run (n : Nat) (el : Nat → Value) : runD P J2 2 158 [.row ⟨23, 3, n, el, false⟩] (.lit :: (.b false :: (.b true :: []))) =
 some (I (⟨0, 0, true⟩), [(((n : Nat) : Int) == 0) = false, fineP [.row ⟨23, 3, n, el, false⟩], (!(fineL (rowL n el))) = true]) := by kernel_rfl
theorem hullG_run (n : Nat) (el : Nat → Value) (l : Nat → Iv) (hn : n ≤ 1000000) (h1 : 1 ≤ n) (hf : fineL (rowL n fun j => I (l j)) = true) : runD P (J3 n l hn h1 hf) 1 158 [.row ⟨23, 3, n, el, false⟩] (.n 0 :: []) =
 some (I (hk l (n - 1)), [Code.scope hb = innerOf P 158 0, (.row 0 : SV) = .row 0, (.ptr 1 0 : SV) = .ptr 1 0, (I (⟨0, 0, false⟩) : Value) = I (⟨0, 0, false⟩), n = n, ∀ j, j < n → el j = I (l j)]) := by kernel_rfl
theorem hull_hk (l : Nat → Iv) : ∀ (m k : Nat) (el : Nat → Value), (∀ j, rd (el j) = l (k + 1 + j)) → hullF (hk l k) (rowL m el) = hk l (k + m)
 | 0, _, _, _ => rfl
 | m + 1, k, el, h => by
  have ih := hull_hk l m (k + 1) (fun j => el (j + 1)) fun j => by
   show rd (el (j + 1)) = _
   rw [h, show k + 1 + (j + 1) = k + 1 + 1 + j by omega]
  show hullF ⟨mn (hk l k).lo (rd (el 0)).lo, mx (hk l k).hi (rd (el 0)).hi, (hk l k).bad⟩ (rowL m fun j => el (j + 1)) = _
  rw [h 0, show k + (m + 1) = k + 1 + m by omega, ← ih]
  rfl
theorem rowL_same : ∀ (n : Nat) (el el2 : Nat → Value), (∀ j, j < n → rd (el j) = rd (el2 j)) → rowL n el = rowL n el2
 | 0, _, _, _ => rfl
 | n + 1, el, el2, h => by
  show rd (el 0) :: rowL n (fun j => el (j + 1)) = rd (el2 0) :: rowL n (fun j => el2 (j + 1))
  rw [h 0 (by omega), rowL_same n _ _ fun j hj => h (j + 1) (by omega)]
def hullV : List DV → Value
 | [d] => I (hullI (dvL d))
 | _ => undef
theorem hull_gives (ds : List DV) (h : fineP ds) : GivesD P 158 ds (hullV ds) := by
 unfold fineP at h
 split at h
 · rename_i q
   obtain ⟨ty, sz, n, el, own⟩ := q
   obtain ⟨rfl, rfl, hn, h⟩ := h
   refine alien_dv ?_
   simp only at hn h
   show GivesD P _ [.row ⟨23, 3, n, el, false⟩] (I (hullI (rowL n el)))
   by_cases h0 : n = 0
   · subst h0
     exact givesD_of_run mo (hullZ_run 0 el) (ps_cons rfl ps_nil) rfl
   cases hf : fineL (rowL n el) with
   | false =>
    refine givesD_of_run mo (hullB_run n el) (ps_cons (n0 (by omega)) (ps_cons ⟨rfl, rfl, hn, h⟩ (ps_cons (neg_t hf) ps_nil))) ?_
    obtain ⟨m, rfl⟩ : ∃ m, n = m + 1 := ⟨n - 1, by omega⟩
    show _ = I (bif fineL (rowL (m + 1) el) then _ else bd)
    rw [hf]
    rfl
   | true =>
    have hel : ∀ j, j < n → el j = I (rd (el j)) := fun j hj => by obtain ⟨a, ha⟩ := h j hj; rw [ha]; rfl
    have hs : rowL n el = rowL n fun j => I (rd (el j)) := rowL_same n _ _ fun j _ => rfl
    refine givesD_of_run mo (hullG_run n el (fun j => rd (el j)) hn (by omega) (by rw [← hs]; exact hf)) (ps_cons (by kernel_rfl) (ps_cons rfl (ps_cons rfl (ps_cons rfl (ps_cons rfl (ps_cons hel ps_nil)))))) ?_
    obtain ⟨m, rfl⟩ : ∃ m, n = m + 1 := ⟨n - 1, by omega⟩
    show _ = I (bif fineL (rowL (m + 1) el) then hullF (rd (el 0)) (rowL m fun j => el (j + 1)) else bd)
    rw [hf]
    have := hull_hk (fun j => rd (el j)) m 0 (fun j => el (j + 1)) fun j => by
     show rd (el (j + 1)) = rd (el (0 + 1 + j))
     rw [show 0 + 1 + j = j + 1 by omega]
    show _ = I (hullF (hk (fun j => rd (el j)) 0) (rowL m fun j => el (j + 1)))
    rw [this, Nat.zero_add, Nat.add_sub_cancel]
 · subst h
   exact givesD_of_run mo hullN_run ps_nil rfl
 · exact h.elim
noncomputable def cHull : CtrD P := ⟨158, fineP, hullV, hull_gives⟩
noncomputable def J4 : Env P := ⟨⟨[], [cFine, cHull]⟩, [], 10, []⟩
theorem holds0_run (a b : Iv) : runF P J4 1 106 [I a, I b] (.lit :: (.b false :: [])) =
 some (.bool false, [fineP [ivs [a, b]], (fineL [a, b]) = false]) := by kernel_rfl
theorem holds0_leaf (a b : Iv) (hf : fineL [a, b] = false) : Gives P 106 #[I a, I b] (.bool (holdsI a b)) := by
 have R := holds0_run a b
 refine gives_of_run mo R (ps_cons (ivs_ok (by simp)) (ps_cons hf ps_nil)) ?_
 unfold holdsI
 rw [hf]
 rfl
theorem holds_hull {a b : Iv} (hf : fineL [a, b] = true) : (((hullI [a, b]).lo == a.lo) && (((hullI [a, b]).hi == a.hi) && ((hullI [a, b]).bad == a.bad))) = holdsI a b := by
 have e : hullI [a, b] = ⟨mn a.lo b.lo, mx a.hi b.hi, a.bad⟩ := by
  show (bif fineL [a, b] then _ else _) = _
  rw [hf]; rfl
 unfold holdsI
 rw [e, hf, Bool.eq_iff_iff]
 simp only [Bool.and_eq_true, beq_iff_eq, decide_eq_true_eq, true_and, and_true]
 unfold mn mx
 constructor
 · rintro ⟨h1, h2⟩
   split at h1 <;> split at h2 <;> omega
 · rintro ⟨h1, h2⟩
   rw [if_neg (by omega), if_neg (by omega)]
   exact ⟨rfl, rfl⟩
theorem holds1_run (a b : Iv) : runF P J4 1 106 [I a, I b] (.lit :: (.b true :: [])) =
 some (.bool (((hullI [a, b]).lo == a.lo) && (((hullI [a, b]).hi == a.hi) && (((hullI [a, b]).bad) == a.bad))), [fineP [ivs [a, b]], (fineL [a, b]) = true, fineP [ivs [a, b]]]) := by kernel_rfl
theorem holds1_leaf (a b : Iv) (hf : fineL [a, b] = true) : Gives P 106 #[I a, I b] (.bool (holdsI a b)) := by
 have R := holds1_run a b
 refine gives_of_run mo R (ps_cons (ivs_ok (by simp)) (ps_cons hf (ps_cons (ivs_ok (by simp)) ps_nil))) ?_
 rw [holds_hull hf]
theorem holds_gives (args : List Value) (h : iP2 args) : Gives P 106 args.toArray ((two2 fun a b => .bool (holdsI a b)) args) := by
 unfold iP2 at h
 split at h
 · obtain ⟨⟨a, rfl⟩, b, rfl⟩ := h
   show Gives P _ #[I a, I b] (.bool (holdsI a b))
   cases hf : fineL [a, b] with
   | false => exact holds0_leaf a b hf
   | true => exact holds1_leaf a b hf
 · exact h.elim
noncomputable def cHolds : Ctr P := ⟨106, iP2, two2 fun a b => .bool (holdsI a b), holds_gives⟩
noncomputable def ivalC : List (Ctr P) := [cAdd, cSub, cMeet, cPoint, cMake, cOf, cMul, cPart, cHolds]
noncomputable def ivalD : List (CtrD P) := [cFine, cHull]
end Go.Iv
/-
 gyreref05.Fine over any row. Printed by ivE.py.
-/
namespace Go.Iv
open Go Go.RowKit Go.Sx Go.Nm Go.Wd Go.Qt Go.Proofs
noncomputable def rb : Code := bodyOf (innerOf P 42 0)
def rs0 (n : Nat) (l : Nat → Iv) (i : Nat) : St := ⟨[(3, .v (.int .i64 ((i : Nat) : Int))), (0, .row 900)], [], [], [900, 0], [(900, some ⟨23, 3, n, fun j => I (l j), false⟩)]⟩
def rf (n : Nat) (l : Nat → Iv) : St := ⟨[(2, .v (.bool false)), (0, .row 900)], [], [], [900, 0], [(900, some ⟨23, 3, n, fun j => I (l j), false⟩)]⟩
def rz (n : Nat) (l : Nat → Iv) : St := ⟨[(0, .row 900)], [], [], [900, 0], [(900, some ⟨23, 3, n, fun j => I (l j), false⟩)]⟩
theorem rrE (n : Nat) (l : Nat → Iv) (i : Nat) (k : Nat) : stepF P V0 1 44 rb (rs0 n l i) (.b false :: []) 1000 (fun _ => some (rz n l)) k =
 some (.exit 0, k, [(decide (((i : Nat) : Int) < ((n : Nat) : Int))) = false, (.row 900 : SV) = .row 900, n = n, ∀ j, j < n → I (l j) = I (l j)]) := by kernel_rfl
theorem rrO (n : Nat) (l : Nat → Iv) (i : Nat) (k : Nat) : stepF P V0 1 44 rb (rs0 n l i) (.b true :: (.n i :: (.b false :: (.n i :: (.b false :: (.n i :: (.n i :: (.b false :: (.n i :: (.b false :: [])))))))))) 1000 (fun _ => some (rs0 n l (i + 1))) k =
 some (.normal, k, [(decide (((i : Nat) : Int) < ((n : Nat) : Int))) = true, ((i : Nat) : Int) = ↑i, i < n, i < n, ((l i).bad) = false, ((i : Nat) : Int) = ↑i, i < n, i < n, (decide ((l i).lo < -1152921504606846976)) = false, ((i : Nat) : Int) = ↑i, i < n, i < n, ((i : Nat) : Int) = ↑i, i < n, i < n, (decide ((l i).lo > (l i).hi)) = false, ((i : Nat) : Int) = ↑i, i < n, i < n, (decide ((l i).hi > 1152921504606846976)) = false, (.int .i64 (IntKind.i64.wrap (((i : Nat) : Int) + 1)) : Value) = .int .i64 ((i + 1 : Nat) : Int), (.row 900 : SV) = .row 900, n = n, ∀ j, j < n → I (l j) = I (l j)]) := by kernel_rfl
theorem rr0 (n : Nat) (l : Nat → Iv) (i : Nat) (k : Nat) : stepF P V0 1 44 rb (rs0 n l i) (.b true :: (.n i :: (.b true :: []))) 1000 (fun _ => some (rf n l)) k =
 some (.ret, k, [(decide (((i : Nat) : Int) < ((n : Nat) : Int))) = true, ((i : Nat) : Int) = ↑i, i < n, i < n, ((l i).bad) = true, (.bool false : Value) = .bool false, (.row 900 : SV) = .row 900, n = n, ∀ j, j < n → I (l j) = I (l j)]) := by kernel_rfl
theorem rr1 (n : Nat) (l : Nat → Iv) (i : Nat) (k : Nat) : stepF P V0 1 44 rb (rs0 n l i) (.b true :: (.n i :: (.b false :: (.n i :: (.b true :: []))))) 1000 (fun _ => some (rf n l)) k =
 some (.ret, k, [(decide (((i : Nat) : Int) < ((n : Nat) : Int))) = true, ((i : Nat) : Int) = ↑i, i < n, i < n, ((l i).bad) = false, ((i : Nat) : Int) = ↑i, i < n, i < n, (decide ((l i).lo < -1152921504606846976)) = true, (.bool false : Value) = .bool false, (.row 900 : SV) = .row 900, n = n, ∀ j, j < n → I (l j) = I (l j)]) := by kernel_rfl
theorem rr2 (n : Nat) (l : Nat → Iv) (i : Nat) (k : Nat) : stepF P V0 1 44 rb (rs0 n l i) (.b true :: (.n i :: (.b false :: (.n i :: (.b false :: (.n i :: (.n i :: (.b true :: [])))))))) 1000 (fun _ => some (rf n l)) k =
 some (.ret, k, [(decide (((i : Nat) : Int) < ((n : Nat) : Int))) = true, ((i : Nat) : Int) = ↑i, i < n, i < n, ((l i).bad) = false, ((i : Nat) : Int) = ↑i, i < n, i < n, (decide ((l i).lo < -1152921504606846976)) = false, ((i : Nat) : Int) = ↑i, i < n, i < n, ((i : Nat) : Int) = ↑i, i < n, i < n, (decide ((l i).lo > (l i).hi)) = true, (.bool false : Value) = .bool false, (.row 900 : SV) = .row 900, n = n, ∀ j, j < n → I (l j) = I (l j)]) := by kernel_rfl
theorem rr3 (n : Nat) (l : Nat → Iv) (i : Nat) (k : Nat) : stepF P V0 1 44 rb (rs0 n l i) (.b true :: (.n i :: (.b false :: (.n i :: (.b false :: (.n i :: (.n i :: (.b false :: (.n i :: (.b true :: [])))))))))) 1000 (fun _ => some (rf n l)) k =
 some (.ret, k, [(decide (((i : Nat) : Int) < ((n : Nat) : Int))) = true, ((i : Nat) : Int) = ↑i, i < n, i < n, ((l i).bad) = false, ((i : Nat) : Int) = ↑i, i < n, i < n, (decide ((l i).lo < -1152921504606846976)) = false, ((i : Nat) : Int) = ↑i, i < n, i < n, ((i : Nat) : Int) = ↑i, i < n, i < n, (decide ((l i).lo > (l i).hi)) = false, ((i : Nat) : Int) = ↑i, i < n, i < n, (decide ((l i).hi > 1152921504606846976)) = true, (.bool false : Value) = .bool false, (.row 900 : SV) = .row 900, n = n, ∀ j, j < n → I (l j) = I (l j)]) := by kernel_rfl
theorem r_ok {n : Nat} {l : Nat → Iv} {i : Nat} (hn : n ≤ 1000000) (hi : i < n) (h : fine (l i) = true) {good : Out → St → Prop} (hg : ∀ S1, Keeps S1 (rs0 n l (i + 1)) → good .normal S1) : StepTo P V0 1 44 rb (rs0 n l i) good := by
 obtain ⟨hb, h1, h2, h3⟩ := fine_iff.1 h
 have hw : (.int .i64 (IntKind.i64.wrap ((i : Int) + 1)) : Value) = .int .i64 ((i + 1 : Nat) : Int) := by rw [wrap_i64_in (by omega) (by omega)]; rfl
 exact step_run (rrO n l i) (ps_cons (decide_eq_true (by omega)) (ps_cons rfl (ps_cons hi (ps_cons hi (ps_cons hb (ps_cons rfl (ps_cons hi (ps_cons hi (ps_cons (decide_eq_false (by omega)) (ps_cons rfl (ps_cons hi (ps_cons hi (ps_cons rfl (ps_cons hi (ps_cons hi (ps_cons (decide_eq_false (by omega)) (ps_cons rfl (ps_cons hi (ps_cons hi (ps_cons (decide_eq_false (by omega)) (ps_cons hw (ps_cons rfl (ps_cons rfl (ps_cons (fun _ _ => rfl) ps_nil)))))))))))))))))))))))) rfl hg
theorem r_end {n : Nat} {l : Nat → Iv} {i : Nat} (hi : n ≤ i) {good : Out → St → Prop} (hg : ∀ S1, Keeps S1 (rz n l) → good (.exit 0) S1) : StepTo P V0 1 44 rb (rs0 n l i) good := by
 exact step_run (rrE n l i) (ps_cons (decide_eq_false (by omega)) (ps_cons rfl (ps_cons rfl (ps_cons (fun _ _ => rfl) ps_nil)))) rfl hg
theorem r_bad {n : Nat} {l : Nat → Iv} {i : Nat} (hi : i < n) (h : fine (l i) = false) {good : Out → St → Prop} (hg : ∀ S1, Keeps S1 (rf n l) → good .ret S1) : StepTo P V0 1 44 rb (rs0 n l i) good := by
 cases hb : (l i).bad with
 | true => exact step_run (rr0 n l i) (ps_cons (decide_eq_true (by omega)) (ps_cons rfl (ps_cons hi (ps_cons hi (ps_cons hb (ps_cons rfl (ps_cons rfl (ps_cons rfl (ps_cons (fun _ _ => rfl) ps_nil))))))))) rfl hg
 | false =>
  by_cases h1 : (l i).lo < -1152921504606846976
  · exact step_run (rr1 n l i) (ps_cons (decide_eq_true (by omega)) (ps_cons rfl (ps_cons hi (ps_cons hi (ps_cons hb (ps_cons rfl (ps_cons hi (ps_cons hi (ps_cons (decide_eq_true (by omega)) (ps_cons rfl (ps_cons rfl (ps_cons rfl (ps_cons (fun _ _ => rfl) ps_nil))))))))))))) rfl hg
  · by_cases h2 : (l i).lo > (l i).hi
    · exact step_run (rr2 n l i) (ps_cons (decide_eq_true (by omega)) (ps_cons rfl (ps_cons hi (ps_cons hi (ps_cons hb (ps_cons rfl (ps_cons hi (ps_cons hi (ps_cons (decide_eq_false (by omega)) (ps_cons rfl (ps_cons hi (ps_cons hi (ps_cons rfl (ps_cons hi (ps_cons hi (ps_cons (decide_eq_true (by omega)) (ps_cons rfl (ps_cons rfl (ps_cons rfl (ps_cons (fun _ _ => rfl) ps_nil)))))))))))))))))))) rfl hg
    · by_cases h3 : (l i).hi > 1152921504606846976
      · exact step_run (rr3 n l i) (ps_cons (decide_eq_true (by omega)) (ps_cons rfl (ps_cons hi (ps_cons hi (ps_cons hb (ps_cons rfl (ps_cons hi (ps_cons hi (ps_cons (decide_eq_false (by omega)) (ps_cons rfl (ps_cons hi (ps_cons hi (ps_cons rfl (ps_cons hi (ps_cons hi (ps_cons (decide_eq_false (by omega)) (ps_cons rfl (ps_cons hi (ps_cons hi (ps_cons (decide_eq_true (by omega)) (ps_cons rfl (ps_cons rfl (ps_cons rfl (ps_cons (fun _ _ => rfl) ps_nil)))))))))))))))))))))))) rfl hg
      · exfalso
        rw [fine_iff.2 ⟨hb, by omega, by omega, by omega⟩] at h
        cases h
noncomputable def rAll (n : Nat) (l : Nat → Iv) (hn : n ≤ 1000000) (h : ∀ j, j < n → fine (l j) = true) : CodeC P :=
 loopC mo V0 (by rfl) 1 44 rb [900, 0] (rs0 n l) (fun i => i ≤ n) (fun i => n - i) (.exit 0) (rz n l) (by simp) (fun _ => rfl) rfl (fun _ => by kernel_rfl) (by kernel_rfl) [900] (fun _ => rfl) rfl
  (fun i hi => by
   by_cases hlt : i < n
   · exact r_ok hn hlt (h i hlt) fun S1 hk => .inl ⟨rfl, i + 1, by omega, by omega, hk⟩
   · exact r_end (by omega) fun S1 hk => .inr ⟨rfl, hk⟩) 0 (Nat.zero_le _)
noncomputable def rOne (n : Nat) (l : Nat → Iv) (hn : n ≤ 1000000) (k : Nat) (hk : k < n) (h : ∀ j, j < k → fine (l j) = true) (hf : fine (l k) = false) : CodeC P :=
 loopC mo V0 (by rfl) 1 44 rb [900, 0] (rs0 n l) (fun i => i ≤ k) (fun i => n - i) .ret (rf n l) (by simp) (fun _ => rfl) rfl (fun _ => by kernel_rfl) (by kernel_rfl) [900] (fun _ => rfl) rfl
  (fun i hi => by
   by_cases hlt : i < k
   · exact r_ok hn (by omega) (h i hlt) fun S1 hk => .inl ⟨rfl, i + 1, by omega, by omega, hk⟩
   · have : i = k := by omega
     subst this
     exact r_bad hk hf fun S1 hk => .inr ⟨rfl, hk⟩) 0 (Nat.zero_le _)
noncomputable def WA (n : Nat) (l : Nat → Iv) (hn : n ≤ 1000000) (h : ∀ j, j < n → fine (l j) = true) : Env P := ⟨⟨[], []⟩, [rAll n l hn h], 10, []⟩
noncomputable def WO (n : Nat) (l : Nat → Iv) (hn : n ≤ 1000000) (k : Nat) (hk : k < n) (h : ∀ j, j < k → fine (l j) = true) (hf : fine (l k) = false) : Env P := ⟨⟨[], []⟩, [rOne n l hn k hk h hf], 10, []⟩
theorem rfineA_run (n : Nat) (el : Nat → Value) (l : Nat → Iv) (hn : n ≤ 1000000) (h : ∀ j, j < n → fine (l j) = true) : runD P (WA n l hn h) 1 42 [.row ⟨23, 3, n, el, false⟩] (.n 0 :: []) =
 some (.bool true, [Code.loop rb = innerOf P 42 0, (.int .i64 0 : Value) = .int .i64 ((0 : Nat) : Int), (.row 0 : SV) = .row 0, n = n, ∀ j, j < n → el j = I (l j)]) := by kernel_rfl
theorem rfineO_run (n : Nat) (el : Nat → Value) (l : Nat → Iv) (hn : n ≤ 1000000) (k : Nat) (hk : k < n) (h : ∀ j, j < k → fine (l j) = true) (hf : fine (l k) = false) : runD P (WO n l hn k hk h hf) 1 42 [.row ⟨23, 3, n, el, false⟩] (.n 0 :: []) =
 some (.bool false, [Code.loop rb = innerOf P 42 0, (.int .i64 0 : Value) = .int .i64 ((0 : Nat) : Int), (.row 0 : SV) = .row 0, n = n, ∀ j, j < n → el j = I (l j)]) := by kernel_rfl
theorem rfineN_run  : runD P V0 1 42 [.v (.slice none 0 0)] [] =
 some (.bool true, []) := by kernel_rfl
theorem rfine_gives (ds : List DV) (h : fineP ds) : GivesD P 42 ds (fineV ds) := by
 unfold fineP at h
 split at h
 · rename_i q
   obtain ⟨ty, sz, n, el, own⟩ := q
   obtain ⟨rfl, rfl, hn, h⟩ := h
   refine alien_dv ?_
   simp only at hn h
   have hel : ∀ j, j < n → el j = I (rd (el j)) := fun j hj => by obtain ⟨a, ha⟩ := h j hj; rw [ha]; rfl
   show GivesD P _ [.row ⟨23, 3, n, el, false⟩] (.bool (fineL (rowL n el)))
   cases hf : fineL (rowL n el) with
   | true => exact givesD_of_run mo (rfineA_run n el (fun j => rd (el j)) hn (rowL_get.1 hf)) (ps_cons (by kernel_rfl) (ps_cons rfl (ps_cons rfl (ps_cons rfl (ps_cons hel ps_nil))))) rfl
   | false =>
    have : ∃ j, j < n ∧ fine (rd (el j)) = false := Classical.byContradiction fun hno => by
     rw [rowL_get.2 fun j hj => by
      cases hg : fine (rd (el j)) with
      | true => rfl
      | false => exact absurd ⟨j, hj, hg⟩ hno] at hf
     cases hf
    obtain ⟨k, k1, k2, k3⟩ := first_bad (fun j => rd (el j)) n this
    exact givesD_of_run mo (rfineO_run n el (fun j => rd (el j)) hn k k1 k2 k3) (ps_cons (by kernel_rfl) (ps_cons rfl (ps_cons rfl (ps_cons rfl (ps_cons hel ps_nil))))) rfl
 · subst h
   exact givesD_of_run mo rfineN_run ps_nil rfl
 · exact h.elim
noncomputable def rFine : CtrD P := ⟨42, fineP, fineV, rfine_gives⟩
end Go.Iv
