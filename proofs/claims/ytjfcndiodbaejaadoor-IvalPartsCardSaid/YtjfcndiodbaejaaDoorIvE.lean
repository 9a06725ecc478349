/-
  gyreref05.Fine over any row. Printed by ivE.py.
-/
import Derived.Test.YtjfcndiodbaejaaDoorIvD
set_option maxRecDepth 100000
namespace Go.Iv
open Go Go.RowKit Go.Sx Go.Nm Go.Wd Go.Qt Go.Proofs

noncomputable def rb : Code := bodyOf (innerOf P 11 0)
def rs0 (n : Nat) (l : Nat → Iv) (i : Nat) : St := ⟨[(3, .v (.int .i64 ((i : Nat) : Int))), (0, .row 900)], [], [], [900, 0], [(900, some ⟨23, 3, n, fun j => I (l j), false⟩)]⟩
def rf (n : Nat) (l : Nat → Iv) : St := ⟨[(2, .v (.bool false)), (0, .row 900)], [], [], [900, 0], [(900, some ⟨23, 3, n, fun j => I (l j), false⟩)]⟩
def rz (n : Nat) (l : Nat → Iv) : St := ⟨[(0, .row 900)], [], [], [900, 0], [(900, some ⟨23, 3, n, fun j => I (l j), false⟩)]⟩
theorem rrE (n : Nat) (l : Nat → Iv) (i : Nat) (k : Nat) : stepF P V0 1 44 rb (rs0 n l i) (.b false :: []) 1000 (fun _ => some (rz n l)) k =
  some (.exit 0, k,
    [(decide (((i : Nat) : Int) < ((n : Nat) : Int))) = false,
     (.row 900 : SV) = .row 900,
     n = n,
     ∀ j, j < n → I (l j) = I (l j)]) := by kernel_rfl
theorem rrO (n : Nat) (l : Nat → Iv) (i : Nat) (k : Nat) : stepF P V0 1 44 rb (rs0 n l i) (.b true :: (.n i :: (.b false :: (.n i :: (.b false :: (.n i :: (.n i :: (.b false :: (.n i :: (.b false :: [])))))))))) 1000 (fun _ => some (rs0 n l (i + 1))) k =
  some (.normal, k,
    [(decide (((i : Nat) : Int) < ((n : Nat) : Int))) = true,
     ((i : Nat) : Int) = ↑i,
     i < n,
     i < n,
     ((l i).bad) = false,
     ((i : Nat) : Int) = ↑i,
     i < n,
     i < n,
     (decide ((l i).lo < -1152921504606846976)) = false,
     ((i : Nat) : Int) = ↑i,
     i < n,
     i < n,
     ((i : Nat) : Int) = ↑i,
     i < n,
     i < n,
     (decide ((l i).lo > (l i).hi)) = false,
     ((i : Nat) : Int) = ↑i,
     i < n,
     i < n,
     (decide ((l i).hi > 1152921504606846976)) = false,
     (.int .i64 (IntKind.i64.wrap (((i : Nat) : Int) + 1)) : Value) = .int .i64 ((i + 1 : Nat) : Int),
     (.row 900 : SV) = .row 900,
     n = n,
     ∀ j, j < n → I (l j) = I (l j)]) := by kernel_rfl
theorem rr0 (n : Nat) (l : Nat → Iv) (i : Nat) (k : Nat) : stepF P V0 1 44 rb (rs0 n l i) (.b true :: (.n i :: (.b true :: []))) 1000 (fun _ => some (rf n l)) k =
  some (.ret, k,
    [(decide (((i : Nat) : Int) < ((n : Nat) : Int))) = true,
     ((i : Nat) : Int) = ↑i,
     i < n,
     i < n,
     ((l i).bad) = true,
     (.bool false : Value) = .bool false,
     (.row 900 : SV) = .row 900,
     n = n,
     ∀ j, j < n → I (l j) = I (l j)]) := by kernel_rfl
theorem rr1 (n : Nat) (l : Nat → Iv) (i : Nat) (k : Nat) : stepF P V0 1 44 rb (rs0 n l i) (.b true :: (.n i :: (.b false :: (.n i :: (.b true :: []))))) 1000 (fun _ => some (rf n l)) k =
  some (.ret, k,
    [(decide (((i : Nat) : Int) < ((n : Nat) : Int))) = true,
     ((i : Nat) : Int) = ↑i,
     i < n,
     i < n,
     ((l i).bad) = false,
     ((i : Nat) : Int) = ↑i,
     i < n,
     i < n,
     (decide ((l i).lo < -1152921504606846976)) = true,
     (.bool false : Value) = .bool false,
     (.row 900 : SV) = .row 900,
     n = n,
     ∀ j, j < n → I (l j) = I (l j)]) := by kernel_rfl
theorem rr2 (n : Nat) (l : Nat → Iv) (i : Nat) (k : Nat) : stepF P V0 1 44 rb (rs0 n l i) (.b true :: (.n i :: (.b false :: (.n i :: (.b false :: (.n i :: (.n i :: (.b true :: [])))))))) 1000 (fun _ => some (rf n l)) k =
  some (.ret, k,
    [(decide (((i : Nat) : Int) < ((n : Nat) : Int))) = true,
     ((i : Nat) : Int) = ↑i,
     i < n,
     i < n,
     ((l i).bad) = false,
     ((i : Nat) : Int) = ↑i,
     i < n,
     i < n,
     (decide ((l i).lo < -1152921504606846976)) = false,
     ((i : Nat) : Int) = ↑i,
     i < n,
     i < n,
     ((i : Nat) : Int) = ↑i,
     i < n,
     i < n,
     (decide ((l i).lo > (l i).hi)) = true,
     (.bool false : Value) = .bool false,
     (.row 900 : SV) = .row 900,
     n = n,
     ∀ j, j < n → I (l j) = I (l j)]) := by kernel_rfl
theorem rr3 (n : Nat) (l : Nat → Iv) (i : Nat) (k : Nat) : stepF P V0 1 44 rb (rs0 n l i) (.b true :: (.n i :: (.b false :: (.n i :: (.b false :: (.n i :: (.n i :: (.b false :: (.n i :: (.b true :: [])))))))))) 1000 (fun _ => some (rf n l)) k =
  some (.ret, k,
    [(decide (((i : Nat) : Int) < ((n : Nat) : Int))) = true,
     ((i : Nat) : Int) = ↑i,
     i < n,
     i < n,
     ((l i).bad) = false,
     ((i : Nat) : Int) = ↑i,
     i < n,
     i < n,
     (decide ((l i).lo < -1152921504606846976)) = false,
     ((i : Nat) : Int) = ↑i,
     i < n,
     i < n,
     ((i : Nat) : Int) = ↑i,
     i < n,
     i < n,
     (decide ((l i).lo > (l i).hi)) = false,
     ((i : Nat) : Int) = ↑i,
     i < n,
     i < n,
     (decide ((l i).hi > 1152921504606846976)) = true,
     (.bool false : Value) = .bool false,
     (.row 900 : SV) = .row 900,
     n = n,
     ∀ j, j < n → I (l j) = I (l j)]) := by kernel_rfl

theorem r_ok {n : Nat} {l : Nat → Iv} {i : Nat} (hn : n ≤ 1000000) (hi : i < n) (h : fine (l i) = true) {good : Out → St → Prop} (hg : ∀ S1, Keeps S1 (rs0 n l (i + 1)) → good .normal S1) : StepTo P V0 1 44 rb (rs0 n l i) good := by
  obtain ⟨hb, h1, h2, h3⟩ := fine_iff.1 h
  have hw : (.int .i64 (IntKind.i64.wrap ((i : Int) + 1)) : Value) = .int .i64 ((i + 1 : Nat) : Int) := by rw [wrap_i64_in (by omega) (by omega)]; rfl
  exact step_run (rrO n l i) (ps_cons (decide_eq_true (by omega)) (ps_cons rfl (ps_cons hi (ps_cons hi (ps_cons hb (ps_cons rfl (ps_cons hi (ps_cons hi (ps_cons (decide_eq_false (by omega)) (ps_cons rfl (ps_cons hi (ps_cons hi (ps_cons rfl (ps_cons hi (ps_cons hi (ps_cons (decide_eq_false (by omega)) (ps_cons rfl (ps_cons hi (ps_cons hi (ps_cons (decide_eq_false (by omega)) (ps_cons hw (ps_cons rfl (ps_cons rfl (ps_cons (fun _ _ => rfl) ps_nil)))))))))))))))))))))))) rfl hg
theorem r_end {n : Nat} {l : Nat → Iv} {i : Nat} (hi : n ≤ i) {good : Out → St → Prop} (hg : ∀ S1, Keeps S1 (rz n l) → good (.exit 0) S1) : StepTo P V0 1 44 rb (rs0 n l i) good := by
  exact step_run (rrE n l i) (ps_cons (decide_eq_false (by omega)) (ps_cons rfl (ps_cons rfl (ps_cons (fun _ _ => rfl) ps_nil)))) rfl hg
theorem r_bad {n : Nat} {l : Nat → Iv} {i : Nat} (hi : i < n) (h : fine (l i) = false) {good : Out → St → Prop} (hg : ∀ S1, Keeps S1 (rf n l) → good .ret S1) : StepTo P V0 1 44 rb (rs0 n l i) good := by
  cases hb : (l i).bad with
  | true => exact step_run (rr0 n l i) (ps_cons (decide_eq_true (by omega)) (ps_cons rfl (ps_cons hi (ps_cons hi (ps_cons hb (ps_cons rfl (ps_cons rfl (ps_cons rfl (ps_cons (fun _ _ => rfl) ps_nil))))))))) rfl hg
  | false =>
    by_cases h1 : (l i).lo < -1152921504606846976
    · exact step_run (rr1 n l i) (ps_cons (decide_eq_true (by omega)) (ps_cons rfl (ps_cons hi (ps_cons hi (ps_cons hb (ps_cons rfl (ps_cons hi (ps_cons hi (ps_cons (decide_eq_true (by omega)) (ps_cons rfl (ps_cons rfl (ps_cons rfl (ps_cons (fun _ _ => rfl) ps_nil))))))))))))) rfl hg
    · by_cases h2 : (l i).lo > (l i).hi
      · exact step_run (rr2 n l i) (ps_cons (decide_eq_true (by omega)) (ps_cons rfl (ps_cons hi (ps_cons hi (ps_cons hb (ps_cons rfl (ps_cons hi (ps_cons hi (ps_cons (decide_eq_false (by omega)) (ps_cons rfl (ps_cons hi (ps_cons hi (ps_cons rfl (ps_cons hi (ps_cons hi (ps_cons (decide_eq_true (by omega)) (ps_cons rfl (ps_cons rfl (ps_cons rfl (ps_cons (fun _ _ => rfl) ps_nil)))))))))))))))))))) rfl hg
      · by_cases h3 : (l i).hi > 1152921504606846976
        · exact step_run (rr3 n l i) (ps_cons (decide_eq_true (by omega)) (ps_cons rfl (ps_cons hi (ps_cons hi (ps_cons hb (ps_cons rfl (ps_cons hi (ps_cons hi (ps_cons (decide_eq_false (by omega)) (ps_cons rfl (ps_cons hi (ps_cons hi (ps_cons rfl (ps_cons hi (ps_cons hi (ps_cons (decide_eq_false (by omega)) (ps_cons rfl (ps_cons hi (ps_cons hi (ps_cons (decide_eq_true (by omega)) (ps_cons rfl (ps_cons rfl (ps_cons rfl (ps_cons (fun _ _ => rfl) ps_nil)))))))))))))))))))))))) rfl hg
        · exfalso
          rw [fine_iff.2 ⟨hb, by omega, by omega, by omega⟩] at h
          cases h
noncomputable def rAll (n : Nat) (l : Nat → Iv) (hn : n ≤ 1000000) (h : ∀ j, j < n → fine (l j) = true) : CodeC P :=
  loopC mo V0 (by rfl) 1 44 rb [900, 0] (rs0 n l) (fun i => i ≤ n) (fun i => n - i) (.exit 0) (rz n l) (by simp) (fun _ => rfl) rfl (fun _ => by kernel_rfl) (by kernel_rfl) [900] (fun _ => rfl) rfl
    (fun i hi => by
      by_cases hlt : i < n
      · exact r_ok hn hlt (h i hlt) fun S1 hk => .inl ⟨rfl, i + 1, by omega, by omega, hk⟩
      · exact r_end (by omega) fun S1 hk => .inr ⟨rfl, hk⟩) 0 (Nat.zero_le _)
noncomputable def rOne (n : Nat) (l : Nat → Iv) (hn : n ≤ 1000000) (k : Nat) (hk : k < n) (h : ∀ j, j < k → fine (l j) = true) (hf : fine (l k) = false) : CodeC P :=
  loopC mo V0 (by rfl) 1 44 rb [900, 0] (rs0 n l) (fun i => i ≤ k) (fun i => n - i) .ret (rf n l) (by simp) (fun _ => rfl) rfl (fun _ => by kernel_rfl) (by kernel_rfl) [900] (fun _ => rfl) rfl
    (fun i hi => by
      by_cases hlt : i < k
      · exact r_ok hn (by omega) (h i hlt) fun S1 hk => .inl ⟨rfl, i + 1, by omega, by omega, hk⟩
      · have : i = k := by omega
        subst this
        exact r_bad hk hf fun S1 hk => .inr ⟨rfl, hk⟩) 0 (Nat.zero_le _)
noncomputable def WA (n : Nat) (l : Nat → Iv) (hn : n ≤ 1000000) (h : ∀ j, j < n → fine (l j) = true) : Env P := ⟨⟨[], []⟩, [rAll n l hn h], 10, []⟩
noncomputable def WO (n : Nat) (l : Nat → Iv) (hn : n ≤ 1000000) (k : Nat) (hk : k < n) (h : ∀ j, j < k → fine (l j) = true) (hf : fine (l k) = false) : Env P := ⟨⟨[], []⟩, [rOne n l hn k hk h hf], 10, []⟩
theorem rfineA_run (n : Nat) (el : Nat → Value) (l : Nat → Iv) (hn : n ≤ 1000000) (h : ∀ j, j < n → fine (l j) = true) : runD P (WA n l hn h) 1 11 [.row ⟨23, 3, n, el, false⟩] (.n 0 :: []) =
  some (.bool true,
    [Code.loop rb = innerOf P 11 0,
     (.int .i64 0 : Value) = .int .i64 ((0 : Nat) : Int),
     (.row 0 : SV) = .row 0,
     n = n,
     ∀ j, j < n → el j = I (l j)]) := by kernel_rfl
theorem rfineO_run (n : Nat) (el : Nat → Value) (l : Nat → Iv) (hn : n ≤ 1000000) (k : Nat) (hk : k < n) (h : ∀ j, j < k → fine (l j) = true) (hf : fine (l k) = false) : runD P (WO n l hn k hk h hf) 1 11 [.row ⟨23, 3, n, el, false⟩] (.n 0 :: []) =
  some (.bool false,
    [Code.loop rb = innerOf P 11 0,
     (.int .i64 0 : Value) = .int .i64 ((0 : Nat) : Int),
     (.row 0 : SV) = .row 0,
     n = n,
     ∀ j, j < n → el j = I (l j)]) := by kernel_rfl
theorem rfineN_run  : runD P V0 1 11 [.v (.slice none 0 0)] [] =
  some (.bool true,
    []) := by kernel_rfl

theorem rfine_gives (ds : List DV) (h : fineP ds) : GivesD P 11 ds (fineV ds) := by
  unfold fineP at h
  split at h
  · rename_i q
    obtain ⟨ty, sz, n, el, own⟩ := q
    obtain ⟨rfl, rfl, hn, h⟩ := h
    refine alien_dv ?_
    simp only at hn h
    have hel : ∀ j, j < n → el j = I (rd (el j)) := fun j hj => by obtain ⟨a, ha⟩ := h j hj; rw [ha]; rfl
    show GivesD P _ [.row ⟨23, 3, n, el, false⟩] (.bool (fineL (rowL n el)))
    cases hf : fineL (rowL n el) with
    | true => exact givesD_of_run mo (rfineA_run n el (fun j => rd (el j)) hn (rowL_get.1 hf)) (ps_cons (by kernel_rfl) (ps_cons rfl (ps_cons rfl (ps_cons rfl (ps_cons hel ps_nil))))) rfl
    | false =>
      have : ∃ j, j < n ∧ fine (rd (el j)) = false := Classical.byContradiction fun hno => by
        rw [rowL_get.2 fun j hj => by
          cases hg : fine (rd (el j)) with
          | true => rfl
          | false => exact absurd ⟨j, hj, hg⟩ hno] at hf
        cases hf
      obtain ⟨k, k1, k2, k3⟩ := first_bad (fun j => rd (el j)) n this
      exact givesD_of_run mo (rfineO_run n el (fun j => rd (el j)) hn k k1 k2 k3) (ps_cons (by kernel_rfl) (ps_cons rfl (ps_cons rfl (ps_cons rfl (ps_cons hel ps_nil))))) rfl
  · subst h
    exact givesD_of_run mo rfineN_run ps_nil rfl
  · exact h.elim
noncomputable def rFine : CtrD P := ⟨11, fineP, fineV, rfine_gives⟩
end Go.Iv
