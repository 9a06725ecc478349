/-
  gyreref05.Hull over any row. Printed by tell5.py.
-/
import Derived.Test.YtlocadeokekenaaGreatDoorRf5
set_option maxRecDepth 100000
namespace Go.Th
open Go Go.RowKit Go.Sx Go.Nm Go.Wd Go.Qt Go.Iv Go.Proofs
theorem neg_t {b : Bool} (h : b = false) : (!b) = true := by rw [h]; rfl
theorem neg_f {b : Bool} (h : b = true) : (!b) = false := by rw [h]; rfl
theorem row_el {P : Program} {f : FuncId} {ty ty2 sz n : Nat} {el el' : Nat → Value} {own : Bool} {v : Value} (h : GivesD P f [.row ⟨ty2, sz, n, el', false⟩] v) (he : ∀ j, j < n → el' j = el j) : GivesD P f [.row ⟨ty, sz, n, el, own⟩] v :=
  fun F m o a W K Q args h1 h2 h3 h4 h5 h6 => h F m o a W K Q args h1 h2 h3 h4 (by
    match args, h5 with
    | [_], ⟨⟨p, hp, w⟩, g3⟩ =>
      refine ⟨⟨p, hp, w.n, w.cap, fun e => (by cases e), ?_⟩, g3⟩
      obtain ⟨cells, ty', fr, hc, _, hel⟩ := w.mem
      refine ⟨cells, ty', fr, hc, fun e => (by cases e), fun j hj => ?_⟩
      show (el' j).cells.size = sz ∧ ∀ i, i < sz → cells[p.off + (j * sz + i)]? = (el' j).cells[i]?
      rw [he j hj]
      exact hel j hj) h6
noncomputable def HU : Env P := ⟨⟨[], [rFine]⟩, [], 10, []⟩
noncomputable def hu_b : Code := bodyOf (innerOf P 17 0)
def hu_st (n : Nat) (l : Nat → Iv) (i : Int) (w : Iv) : St := ⟨[(4, .v (.int .i64 i)), (0, .row 900), (2, .ptr 1 0), (3, .ptr 13 0)], [(1, (.whole (I (⟨0, 0, false⟩)), 23)), (13, (.whole (I w), 23))], [], [900, 13, 1, 0], [(900, some ⟨23, 3, n, fun j => I (l j), false⟩)]⟩
theorem hu_w0 (n : Nat) (l : Nat → Iv) (i : Int) (w : Iv) (k_ : Nat) : stepF P HU 1 42 hu_b (hu_st n l i w) (.b true :: (.n i.toNat :: (.n i.toNat :: []))) 1000 (fun _ => some (hu_st n l (IntKind.i64.wrap (i + 1)) (⟨mn w.lo ((l i.toNat).lo), mx w.hi ((l i.toNat).hi), w.bad⟩))) k_ =
  some (.normal, k_, [(decide (i < ((n : Nat) : Int))) = true, i = ↑i.toNat, i.toNat < n, i.toNat < n, i = ↑i.toNat, i.toNat < n, i.toNat < n, (.int .i64 (IntKind.i64.wrap (i + 1)) : Value) = .int .i64 (IntKind.i64.wrap (i + 1)), (.row 900 : SV) = .row 900, (.ptr 1 0 : SV) = .ptr 1 0, (.ptr 13 0 : SV) = .ptr 13 0, (I (⟨0, 0, false⟩) : Value) = I (⟨0, 0, false⟩), (.int .i64 (mn w.lo ((l i.toNat).lo)) : Value) = .int .i64 (mn w.lo ((l i.toNat).lo)), (.int .i64 (mx w.hi ((l i.toNat).hi)) : Value) = .int .i64 (mx w.hi ((l i.toNat).hi)), (.bool w.bad : Value) = .bool w.bad, n = n, ∀ j, j < n → I (l j) = I (l j)]) := by kernel_rfl
theorem hu_w0_ok (n : Nat) (l : Nat → Iv) (i : Int) (w : Iv) (q0 : (decide (i < ((n : Nat) : Int))) = true) (x0 : i = ↑i.toNat) (x1 : i.toNat < n) (x2 : i.toNat < n) (x3 : i = ↑i.toNat) (x4 : i.toNat < n) (x5 : i.toNat < n) {good : Out → St → Prop} (hg : ∀ S1, Keeps S1 (hu_st n l (IntKind.i64.wrap (i + 1)) (⟨mn w.lo ((l i.toNat).lo), mx w.hi ((l i.toNat).hi), w.bad⟩)) → good .normal S1) : StepTo P HU 1 42 hu_b (hu_st n l i w) good :=
  step_run (hu_w0 n l i w) (ps_cons q0 (ps_cons x0 (ps_cons x1 (ps_cons x2 (ps_cons x3 (ps_cons x4 (ps_cons x5 (ps_cons rfl (ps_cons rfl (ps_cons rfl (ps_cons rfl (ps_cons rfl (ps_cons rfl (ps_cons rfl (ps_cons rfl (ps_cons rfl (ps_cons (fun _ _ => rfl) ps_nil))))))))))))))))) rfl hg
theorem hu_w1 (n : Nat) (l : Nat → Iv) (i : Int) (w : Iv) (k_ : Nat) : stepF P HU 1 42 hu_b (hu_st n l i w) (.b false :: []) 1000 (fun _ => some (hu_st n l i w)) k_ =
  some ((.exit 0), k_, [(decide (i < ((n : Nat) : Int))) = false, (.int .i64 i : Value) = .int .i64 i, (.row 900 : SV) = .row 900, (.ptr 1 0 : SV) = .ptr 1 0, (.ptr 13 0 : SV) = .ptr 13 0, (I (⟨0, 0, false⟩) : Value) = I (⟨0, 0, false⟩), (I w : Value) = I w, n = n, ∀ j, j < n → I (l j) = I (l j)]) := by kernel_rfl
theorem hu_w1_ok (n : Nat) (l : Nat → Iv) (i : Int) (w : Iv) (q0 : (decide (i < ((n : Nat) : Int))) = false)  {good : Out → St → Prop} (hg : ∀ S1, Keeps S1 (hu_st n l i w) → good (.exit 0) S1) : StepTo P HU 1 42 hu_b (hu_st n l i w) good :=
  step_run (hu_w1 n l i w) (ps_cons q0 (ps_cons rfl (ps_cons rfl (ps_cons rfl (ps_cons rfl (ps_cons rfl (ps_cons rfl (ps_cons rfl (ps_cons (fun _ _ => rfl) ps_nil))))))))) rfl hg
noncomputable def hu_g (n : Nat) (l : Nat → Iv) (k : Nat) : St := hu_st n l ((k : Int) + 1) (hk l k)
theorem hu_step {n : Nat} {l : Nat → Iv} (hn : n ≤ 1000000) (k : Nat) (hk0 : k + 1 ≤ n) : StepTo P HU 1 42 hu_b (hu_g n l k) fun o S1 => (o = .normal ∧ ∃ g' : Nat, g' + 1 ≤ n ∧ n - g' < n - k ∧ Keeps S1 (hu_g n l g')) ∨ (o = .exit 0 ∧ Keeps S1 (hu_g n l (n - 1))) := by
  by_cases h : k + 1 < n
  · have q0 : decide ((k : Int) + 1 < ((n : Nat) : Int)) = true := decide_eq_true (by omega)
    have e1 : IntKind.i64.wrap ((k : Int) + 1 + 1) = ((k + 1 : Nat) : Int) + 1 := by rw [wrap_i64_in (by omega) (by omega)]; rfl
    have e2 : ((k : Int) + 1).toNat = k + 1 := by omega
    have x0 : (k : Int) + 1 = ((((k : Int) + 1).toNat : Nat) : Int) := by omega
    have x1 : ((k : Int) + 1).toNat < n := by omega
    refine hu_w0_ok n l _ _ q0 x0 x1 x1 x0 x1 x1 fun S1 hk1 => .inl ⟨rfl, k + 1, by omega, by omega, ?_⟩
    rw [e1, e2] at hk1
    exact hk1
  · have e : k = n - 1 := by omega
    subst e
    exact hu_w1_ok n l _ _ (decide_eq_false (by omega)) fun S1 hk1 => .inr ⟨rfl, hk1⟩
noncomputable def hu_loop (n : Nat) (l : Nat → Iv) (hn : n ≤ 1000000) (h0 : 0 < n) : CodeC P :=
  loopC mo HU (by rfl) 1 42 hu_b [900, 13, 1, 0] (hu_g n l) (fun k => k + 1 ≤ n) (fun k => n - k) (.exit 0) (hu_g n l (n - 1)) (by simp) (fun _ => rfl) rfl (fun _ => by kernel_rfl) (by kernel_rfl) [900] (fun _ => rfl) rfl
    (hu_step hn) 0 h0
noncomputable def hu_E (n : Nat) (l : Nat → Iv) (hn : n ≤ 1000000) (h0 : 0 < n) : Env P := ⟨⟨[], [rFine]⟩, [hu_loop n l hn h0], 10, []⟩
theorem huG (n : Nat) (l : Nat → Iv) (hn : n ≤ 1000000) (h0 : 0 < n) (hf : fineL (rowL n fun j => I (l j)) = true) : GivesD P 17 [.row ⟨23, 3, n, fun j => I (l j), false⟩] (I (hk l (n - 1))) :=
  givesD_of_run (E := hu_E n l hn h0) (lv := 1) (ds := (.b false :: (.b false :: (.n 0 :: [])))) (v := I (hk l (n - 1))) (ps := [(((n : Nat) : Int) == 0) = false, fineP [.row ⟨23, 3, n, fun j => I (l j), false⟩], (!(fineL (rowL n fun j => I (l j)))) = false, 0 < n, 0 < n, Code.loop hu_b = innerOf P 17 0, (.int .i64 1 : Value) = .int .i64 (((0 : Nat) : Int) + 1), (.row 0 : SV) = .row 0, (.ptr 1 0 : SV) = .ptr 1 0, (.ptr 13 0 : SV) = .ptr 13 0, (I (⟨0, 0, false⟩) : Value) = I (⟨0, 0, false⟩), (I (l 0) : Value) = I (hk l 0), n = n, ∀ j, j < n → I (l j) = I (l j)]) mo (by kernel_rfl) (ps_cons (n0 (by omega)) (ps_cons ⟨rfl, rfl, hn, fun _ _ => ⟨_, rfl⟩⟩ (ps_cons (neg_f hf) (ps_cons (by omega) (ps_cons (by omega) (ps_cons (by kernel_rfl) (ps_cons rfl (ps_cons rfl (ps_cons rfl (ps_cons rfl (ps_cons rfl (ps_cons rfl (ps_cons rfl (ps_cons (fun _ _ => rfl) ps_nil)))))))))))))) rfl
theorem huZ (n : Nat) (l : Nat → Iv) (h0 : (((n : Nat) : Int) == 0) = true) : GivesD P 17 [.row ⟨23, 3, n, fun j => I (l j), false⟩] (I bd) :=
  givesD_of_run (E := HU) (lv := 2) (ds := (.b true :: [])) (v := I (⟨0, 0, true⟩)) (ps := [(((n : Nat) : Int) == 0) = true]) mo (by kernel_rfl) (ps_cons h0 ps_nil) rfl
theorem huB (n : Nat) (l : Nat → Iv) (hn : n ≤ 1000000) (h0 : 0 < n) (hf : fineL (rowL n fun j => I (l j)) = false) : GivesD P 17 [.row ⟨23, 3, n, fun j => I (l j), false⟩] (I bd) :=
  givesD_of_run (E := HU) (lv := 2) (ds := (.b false :: (.b true :: []))) (v := I (⟨0, 0, true⟩)) (ps := [(((n : Nat) : Int) == 0) = false, fineP [.row ⟨23, 3, n, fun j => I (l j), false⟩], (!(fineL (rowL n fun j => I (l j)))) = true]) mo (by kernel_rfl) (ps_cons (n0 (by omega)) (ps_cons ⟨rfl, rfl, hn, fun _ _ => ⟨_, rfl⟩⟩ (ps_cons (neg_t hf) ps_nil))) rfl
theorem huN   : GivesD P 17 [.v (.slice none 0 0)] (I bd) :=
  givesD_of_run (E := HU) (lv := 2) (ds := []) (v := I (⟨0, 0, true⟩)) (ps := []) mo (by kernel_rfl) ps_nil rfl
theorem rhull_gives (ds : List DV) (h : fineP ds) : GivesD P 17 ds (hullV ds) := by
  unfold fineP at h
  split at h
  · rename_i q
    obtain ⟨ty, sz, n, el, own⟩ := q
    obtain ⟨rfl, rfl, hn, h⟩ := h
    simp only at hn h
    have hel : ∀ j, j < n → I (rd (el j)) = el j := fun j hj => by obtain ⟨a, ha⟩ := h j hj; rw [ha]; rfl
    have hs : rowL n el = rowL n fun j => I (rd (el j)) := rowL_same n _ _ fun j _ => rfl
    refine row_el (ty2 := 23) ?_ hel
    show GivesD P _ _ (I (hullI (rowL n el)))
    rw [hs]
    by_cases h0 : n = 0
    · subst h0
      exact huZ 0 _ rfl
    cases hf : fineL (rowL n fun j => I (rd (el j))) with
    | false =>
      have := huB n (fun j => rd (el j)) hn (by omega) hf
      obtain ⟨m, rfl⟩ : ∃ m, n = m + 1 := ⟨n - 1, by omega⟩
      show GivesD P _ _ (I (bif fineL (rowL (m + 1) fun j => I (rd (el j))) then _ else bd))
      rw [hf]
      exact this
    | true =>
      have := huG n (fun j => rd (el j)) hn (by omega) hf
      obtain ⟨m, rfl⟩ : ∃ m, n = m + 1 := ⟨n - 1, by omega⟩
      show GivesD P _ _ (I (bif fineL (rowL (m + 1) fun j => I (rd (el j))) then hullF (rd (el 0)) (rowL m fun j => I (rd (el (j + 1)))) else bd))
      rw [hf]
      have e := hull_hk (fun j => rd (el j)) m 0 (fun j => I (rd (el (j + 1)))) fun j => by
        show rd (el (j + 1)) = rd (el (0 + 1 + j))
        rw [show 0 + 1 + j = j + 1 by omega]
      show GivesD P _ _ (I (hullF (hk (fun j => rd (el j)) 0) (rowL m fun j => I (rd (el (j + 1))))))
      rw [e, Nat.zero_add]
      rw [Nat.add_sub_cancel] at this
      exact this
  · subst h
    exact huN
  · exact h.elim
noncomputable def rHull : CtrD P := ⟨17, fineP, hullV, rhull_gives⟩
end Go.Th
