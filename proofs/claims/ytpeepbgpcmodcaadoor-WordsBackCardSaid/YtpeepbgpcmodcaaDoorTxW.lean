/-
  The law WordsBack comes to true. Printed by wdW.py.
-/
import Derived.Test.YtpeepbgpcmodcaaDoorTxU
import Derived.Test.YtpeepbgpcmodcaaDoorTxT
set_option maxRecDepth 100000
namespace Go.Tx
open Go Go.RowKit Go.Sx Go.Proofs
def atx (x : Nat → ByteArray) : Nat → Int
  | 0 => 0
  | k + 1 => atx x k + ((cn (x k) : Nat) : Int) + 1
def wL (x : Nat → ByteArray) (n : Nat) : List (Int × ByteArray) := (List.range n).map fun k => (atx x k, x k)
theorem wL_succ (x : Nat → ByteArray) (n : Nat) : wL x (n + 1) = wL x n ++ [(atx x n, x n)] := by
  unfold wL
  rw [List.range_succ, List.map_append]
  rfl
theorem wL_len (x : Nat → ByteArray) (n : Nat) : (wL x n).length = n := by
  unfold wL
  simp
theorem wL_at {x : Nat → ByteArray} {n k : Nat} (h : k < n) : wAt (wL x n) k = (atx x k, x k) := by
  unfold wAt wL
  simp [List.getD, List.getElem?_map, List.getElem?_range h]
theorem bk32 : Bk ⟨#[32]⟩ := ⟨by kernel_rfl, by kernel_rfl⟩
structure Jo (x : Nat → ByteArray) (n : Nat) : Prop where
  ok : Ok (jF x n)
  sw : sw (jF x n) = wL x n
  cn : ((cn (jF x n) : Nat) : Int) + 1 = atx x n
theorem ok_empty : Ok ByteArray.empty := fun k hk => absurd hk (Nat.not_lt_zero k)
theorem sw_join {x : Nat → ByteArray} : ∀ {n : Nat}, (∀ j, j < n + 1 → Wd (x j)) → Jo x (n + 1)
  | 0, h => by
    have hw := h 0 (by omega)
    have e : jF x 1 = ByteArray.empty ++ x 0 := rfl
    have hE : (E ByteArray.empty).1 < 0 := show (-1 : Int) < 0 by decide
    obtain ⟨h1, h2⟩ := sw_word ok_empty.gd hw hE
    refine ⟨by rw [e]; exact ok_app ok_empty hw.ok, ?_, ?_⟩
    · rw [e, h1]
      rfl
    · rw [e, cn_app ok_empty.gd]
      show ((0 + Tx.cn (x 0) : Nat) : Int) + 1 = 0 + ((Tx.cn (x 0) : Nat) : Int) + 1
      omega
  | n + 1, h => by
    have ih := sw_join (n := n) fun j hj => h j (by omega)
    have hw := h (n + 1) (by omega)
    have e : jF x (n + 1 + 1) = (jF x (n + 1) ++ ⟨#[32]⟩) ++ x (n + 1) := by
      show (bif Nat.blt 0 (n + 1) then _ else _) ++ _ = _
      rw [show Nat.blt 0 (n + 1) = true by rw [Nat.blt_eq]; omega]
      rfl
    have hg := gd_app ih.ok.gd bk32.gd
    have hE := E_blank ih.ok.gd bk32
    obtain ⟨h1, h2⟩ := sw_word hg hw hE.1
    have hc : Tx.cn (jF x (n + 1) ++ ⟨#[32]⟩) = Tx.cn (jF x (n + 1)) + 1 := by rw [cn_app ih.ok.gd, bk32.one]
    have hcn := ih.cn
    refine ⟨by rw [e]; exact ok_app (ok_app ih.ok bk32.ok) hw.ok, ?_, ?_⟩
    · rw [e, h1, sw_blank ih.ok.gd bk32, ih.sw, wL_succ x (n + 1), hc]
      congr 3
    · rw [e, cn_app hg, hc]
      show _ = atx x (n + 1) + ((Tx.cn (x (n + 1)) : Nat) : Int) + 1
      omega
noncomputable def ZK : Env P := ⟨⟨[wk_c, st_c, ct_c], [], []⟩, [], 10, []⟩
noncomputable def wba_b : Code := bodyOf (innerOf P 4 0)
def wba_st (n : Nat) (x : Nat → ByteArray) (i : Int) (r : Bool) : St := ⟨[(3, .v (.int .i64 i)), (2, .v (.bool r)), (0, .row 900)], [], [], [900, 0], [(900, some ⟨9, 1, n, fun j => .string (x j), false⟩)]⟩
theorem wba_w0 (n : Nat) (x : Nat → ByteArray) (i : Int) (r : Bool) (k_ : Nat) : stepF P ZK 1 92 wba_b (wba_st n x i r) (.b true :: (.n i.toNat :: (.b true :: []))) 1000 (fun _ => some (wba_st n x i true)) k_ =
  some (.ret, k_, [(decide (i < ((n : Nat) : Int))) = true, i = ↑i.toNat, i.toNat < n, i.toNat < n, (decide ((((x i.toNat).size : Nat) : Int) > 100)) = true, kP [], (.int .i64 i : Value) = .int .i64 i, (.bool true : Value) = .bool true, (.row 900 : SV) = .row 900, n = n, ∀ j, j < n → (.string (x j) : Value) = .string (x j)]) := by kernel_rfl
theorem wba_w0_ok (n : Nat) (x : Nat → ByteArray) (i : Int) (r : Bool) (q0 : (decide (i < ((n : Nat) : Int))) = true) (q1 : (decide ((((x i.toNat).size : Nat) : Int) > 100)) = true) (x0 : i = ↑i.toNat) (x1 : i.toNat < n) (x2 : i.toNat < n) {good : Out → St → Prop} (hg : ∀ S1, Keeps S1 (wba_st n x i true) → good .ret S1) : StepTo P ZK 1 92 wba_b (wba_st n x i r) good :=
  step_run (wba_w0 n x i r) (ps_cons q0 (ps_cons x0 (ps_cons x1 (ps_cons x2 (ps_cons q1 (ps_cons trivial (ps_cons rfl (ps_cons rfl (ps_cons rfl (ps_cons rfl (ps_cons (fun _ _ => rfl) ps_nil))))))))))) rfl hg
theorem wba_w1 (n : Nat) (x : Nat → ByteArray) (i : Int) (r : Bool) (k_ : Nat) : stepF P ZK 1 92 wba_b (wba_st n x i r) (.b false :: []) 1000 (fun _ => some (wba_st n x i r)) k_ =
  some ((.exit 0), k_, [(decide (i < ((n : Nat) : Int))) = false, (.int .i64 i : Value) = .int .i64 i, (.bool r : Value) = .bool r, (.row 900 : SV) = .row 900, n = n, ∀ j, j < n → (.string (x j) : Value) = .string (x j)]) := by kernel_rfl
theorem wba_w1_ok (n : Nat) (x : Nat → ByteArray) (i : Int) (r : Bool) (q0 : (decide (i < ((n : Nat) : Int))) = false)  {good : Out → St → Prop} (hg : ∀ S1, Keeps S1 (wba_st n x i r) → good (.exit 0) S1) : StepTo P ZK 1 92 wba_b (wba_st n x i r) good :=
  step_run (wba_w1 n x i r) (ps_cons q0 (ps_cons rfl (ps_cons rfl (ps_cons rfl (ps_cons rfl (ps_cons (fun _ _ => rfl) ps_nil)))))) rfl hg
theorem wba_w2 (n : Nat) (x : Nat → ByteArray) (i : Int) (r : Bool) (k_ : Nat) : stepF P ZK 1 92 wba_b (wba_st n x i r) (.b true :: (.n i.toNat :: (.b false :: (.n i.toNat :: (.b false :: []))))) 1000 (fun _ => some (wba_st n x (IntKind.i64.wrap (i + 1)) r)) k_ =
  some (.normal, k_, [(decide (i < ((n : Nat) : Int))) = true, i = ↑i.toNat, i.toNat < n, i.toNat < n, (decide ((((x i.toNat).size : Nat) : Int) > 100)) = false, i = ↑i.toNat, i.toNat < n, i.toNat < n, sP shP [.string (x i.toNat)], (!(stB (x i.toNat))) = false, (.int .i64 (IntKind.i64.wrap (i + 1)) : Value) = .int .i64 (IntKind.i64.wrap (i + 1)), (.bool r : Value) = .bool r, (.row 900 : SV) = .row 900, n = n, ∀ j, j < n → (.string (x j) : Value) = .string (x j)]) := by kernel_rfl
theorem wba_w2_ok (n : Nat) (x : Nat → ByteArray) (i : Int) (r : Bool) (q0 : (decide (i < ((n : Nat) : Int))) = true) (q1 : (decide ((((x i.toNat).size : Nat) : Int) > 100)) = false) (q2 : (stB (x i.toNat)) = true) (x0 : i = ↑i.toNat) (x1 : i.toNat < n) (x2 : i.toNat < n) (x3 : i = ↑i.toNat) (x4 : i.toNat < n) (x5 : i.toNat < n) (x6 : sP shP [.string (x i.toNat)]) {good : Out → St → Prop} (hg : ∀ S1, Keeps S1 (wba_st n x (IntKind.i64.wrap (i + 1)) r) → good .normal S1) : StepTo P ZK 1 92 wba_b (wba_st n x i r) good :=
  step_run (wba_w2 n x i r) (ps_cons q0 (ps_cons x0 (ps_cons x1 (ps_cons x2 (ps_cons q1 (ps_cons x3 (ps_cons x4 (ps_cons x5 (ps_cons x6 (ps_cons (neg_f q2) (ps_cons rfl (ps_cons rfl (ps_cons rfl (ps_cons rfl (ps_cons (fun _ _ => rfl) ps_nil))))))))))))))) rfl hg
theorem wba_w3 (n : Nat) (x : Nat → ByteArray) (i : Int) (r : Bool) (k_ : Nat) : stepF P ZK 1 92 wba_b (wba_st n x i r) (.b true :: (.n i.toNat :: (.b false :: (.n i.toNat :: (.b true :: []))))) 1000 (fun _ => some (wba_st n x i true)) k_ =
  some (.ret, k_, [(decide (i < ((n : Nat) : Int))) = true, i = ↑i.toNat, i.toNat < n, i.toNat < n, (decide ((((x i.toNat).size : Nat) : Int) > 100)) = false, i = ↑i.toNat, i.toNat < n, i.toNat < n, sP shP [.string (x i.toNat)], (!(stB (x i.toNat))) = true, kP [], (.int .i64 i : Value) = .int .i64 i, (.bool true : Value) = .bool true, (.row 900 : SV) = .row 900, n = n, ∀ j, j < n → (.string (x j) : Value) = .string (x j)]) := by kernel_rfl
theorem wba_w3_ok (n : Nat) (x : Nat → ByteArray) (i : Int) (r : Bool) (q0 : (decide (i < ((n : Nat) : Int))) = true) (q1 : (decide ((((x i.toNat).size : Nat) : Int) > 100)) = false) (q2 : (stB (x i.toNat)) = false) (x0 : i = ↑i.toNat) (x1 : i.toNat < n) (x2 : i.toNat < n) (x3 : i = ↑i.toNat) (x4 : i.toNat < n) (x5 : i.toNat < n) (x6 : sP shP [.string (x i.toNat)]) {good : Out → St → Prop} (hg : ∀ S1, Keeps S1 (wba_st n x i true) → good .ret S1) : StepTo P ZK 1 92 wba_b (wba_st n x i r) good :=
  step_run (wba_w3 n x i r) (ps_cons q0 (ps_cons x0 (ps_cons x1 (ps_cons x2 (ps_cons q1 (ps_cons x3 (ps_cons x4 (ps_cons x5 (ps_cons x6 (ps_cons (neg_t q2) (ps_cons trivial (ps_cons rfl (ps_cons rfl (ps_cons rfl (ps_cons rfl (ps_cons (fun _ _ => rfl) ps_nil)))))))))))))))) rfl hg
noncomputable def wbb_b : Code := bodyOf (innerOf P 4 1)
def wbb_st (n : Nat) (x : Nat → ByteArray) (i : Int) (a : Int) (r : Bool) : St := ⟨[(9, .v (.int .i64 i)), (8, .v (.int .i64 a)), (2, .v (.bool r)), (0, .row 1800), (5, .row 910)], [], [], [1800, 910, 10, 900, 0], [(1800, some ⟨9, 1, n, fun j => .string (x j), false⟩), (910, some ⟨38, 2, (sw (jF x n)).length, we (sw (jF x n)), true⟩)]⟩
theorem wbb_w1 (n : Nat) (x : Nat → ByteArray) (i : Int) (a : Int) (r : Bool) (k_ : Nat) : stepF P ZK 1 92 wbb_b (wbb_st n x i a r) (.b false :: []) 1000 (fun _ => some (wbb_st n x i a r)) k_ =
  some ((.exit 2), k_, [(decide (i < ((n : Nat) : Int))) = false, (.int .i64 i : Value) = .int .i64 i, (.int .i64 a : Value) = .int .i64 a, (.bool r : Value) = .bool r, (.row 1800 : SV) = .row 1800, (.row 910 : SV) = .row 910, n = n, ∀ j, j < n → (.string (x j) : Value) = .string (x j), (sw (jF x n)).length = (sw (jF x n)).length, ∀ j, j < (sw (jF x n)).length → we (sw (jF x n)) j = we (sw (jF x n)) j]) := by kernel_rfl
theorem wbb_w1_ok (n : Nat) (x : Nat → ByteArray) (i : Int) (a : Int) (r : Bool) (q0 : (decide (i < ((n : Nat) : Int))) = false)  {good : Out → St → Prop} (hg : ∀ S1, Keeps S1 (wbb_st n x i a r) → good (.exit 2) S1) : StepTo P ZK 1 92 wbb_b (wbb_st n x i a r) good :=
  step_run (wbb_w1 n x i a r) (ps_cons q0 (ps_cons rfl (ps_cons rfl (ps_cons rfl (ps_cons rfl (ps_cons rfl (ps_cons rfl (ps_cons (fun _ _ => rfl) (ps_cons rfl (ps_cons (fun _ _ => rfl) ps_nil)))))))))) rfl hg
theorem wbb_w3 (n : Nat) (x : Nat → ByteArray) (i : Int) (a : Int) (r : Bool) (k_ : Nat) : stepF P ZK 1 92 wbb_b (wbb_st n x i a r) (.b true :: (.n i.toNat :: (.n i.toNat :: (.b false :: (.n i.toNat :: (.b false :: (.n i.toNat :: []))))))) 1000 (fun _ => some (wbb_st n x (IntKind.i64.wrap (i + 1)) (IntKind.i64.wrap (IntKind.i64.wrap (a + ((cn (x i.toNat) : Nat) : Int)) + 1)) r)) k_ =
  some (.normal, k_, [(decide (i < ((n : Nat) : Int))) = true, i = ↑i.toNat, i.toNat < (sw (jF x n)).length, i.toNat < (sw (jF x n)).length, i = ↑i.toNat, i.toNat < n, i.toNat < n, (!(((wAt (sw (jF x n)) i.toNat).2).toList == (x i.toNat).toList)) = false, i = ↑i.toNat, i.toNat < (sw (jF x n)).length, i.toNat < (sw (jF x n)).length, ((wAt (sw (jF x n)) i.toNat).1 != a) = false, i = ↑i.toNat, i.toNat < n, i.toNat < n, sP szP [.string (x i.toNat)], (.int .i64 (IntKind.i64.wrap (i + 1)) : Value) = .int .i64 (IntKind.i64.wrap (i + 1)), (.int .i64 (IntKind.i64.wrap (IntKind.i64.wrap (a + ((cn (x i.toNat) : Nat) : Int)) + 1)) : Value) = .int .i64 (IntKind.i64.wrap (IntKind.i64.wrap (a + ((cn (x i.toNat) : Nat) : Int)) + 1)), (.bool r : Value) = .bool r, (.row 1800 : SV) = .row 1800, (.row 910 : SV) = .row 910, n = n, ∀ j, j < n → (.string (x j) : Value) = .string (x j), (sw (jF x n)).length = (sw (jF x n)).length, ∀ j, j < (sw (jF x n)).length → we (sw (jF x n)) j = we (sw (jF x n)) j]) := by kernel_rfl
theorem wbb_w3_ok (n : Nat) (x : Nat → ByteArray) (i : Int) (a : Int) (r : Bool) (q0 : (decide (i < ((n : Nat) : Int))) = true) (q1 : (((wAt (sw (jF x n)) i.toNat).2).toList == (x i.toNat).toList) = true) (q2 : ((wAt (sw (jF x n)) i.toNat).1 != a) = false) (x0 : i = ↑i.toNat) (x1 : i.toNat < (sw (jF x n)).length) (x2 : i.toNat < (sw (jF x n)).length) (x3 : i = ↑i.toNat) (x4 : i.toNat < n) (x5 : i.toNat < n) (x6 : i = ↑i.toNat) (x7 : i.toNat < (sw (jF x n)).length) (x8 : i.toNat < (sw (jF x n)).length) (x9 : i = ↑i.toNat) (x10 : i.toNat < n) (x11 : i.toNat < n) (x12 : sP szP [.string (x i.toNat)]) {good : Out → St → Prop} (hg : ∀ S1, Keeps S1 (wbb_st n x (IntKind.i64.wrap (i + 1)) (IntKind.i64.wrap (IntKind.i64.wrap (a + ((cn (x i.toNat) : Nat) : Int)) + 1)) r) → good .normal S1) : StepTo P ZK 1 92 wbb_b (wbb_st n x i a r) good :=
  step_run (wbb_w3 n x i a r) (ps_cons q0 (ps_cons x0 (ps_cons x1 (ps_cons x2 (ps_cons x3 (ps_cons x4 (ps_cons x5 (ps_cons (neg_f q1) (ps_cons x6 (ps_cons x7 (ps_cons x8 (ps_cons q2 (ps_cons x9 (ps_cons x10 (ps_cons x11 (ps_cons x12 (ps_cons rfl (ps_cons rfl (ps_cons rfl (ps_cons rfl (ps_cons rfl (ps_cons rfl (ps_cons (fun _ _ => rfl) (ps_cons rfl (ps_cons (fun _ _ => rfl) ps_nil))))))))))))))))))))))))) rfl hg
section
variable (n : Nat) (x : Nat → ByteArray)
theorem wba_go (hn : n ≤ 20) (k : Nat) (hk : k < n) (hx : (x k).size ≤ 100 ∧ stB (x k) = true) {good : Out → St → Prop} (hg : ∀ S1, Keeps S1 (wba_st n x ((k + 1 : Nat) : Int) false) → good .normal S1) : StepTo P ZK 1 92 wba_b (wba_st n x ((k : Nat) : Int) false) good := by
  have e1 : IntKind.i64.wrap ((k : Int) + 1) = ((k + 1 : Nat) : Int) := by rw [wr (by omega) (by omega)]; rfl
  refine wba_w2_ok n x ((k : Nat) : Int) false (decide_eq_true (by omega)) (decide_eq_false (by show ¬ (((x k).size : Nat) : Int) > 100; omega)) hx.2 rfl hk hk rfl hk hk (show (x k).size ≤ 500000 by omega) fun S1 hk1 => hg S1 ?_
  rw [e1] at hk1
  exact hk1
noncomputable def wba_all (hn : n ≤ 20) (hx : ∀ j, j < n → (x j).size ≤ 100 ∧ stB (x j) = true) : CodeC P :=
  loopC mo ZK (by rfl) 1 92 wba_b [900, 0] (fun k : Nat => wba_st n x ((k : Nat) : Int) false) (fun k => k ≤ n) (fun k => n - k) (.exit 0) (wba_st n x ((n : Nat) : Int) false) (by simp) (fun _ => rfl) rfl (fun _ => by kernel_rfl) (by kernel_rfl) [900] (fun _ => rfl) rfl
    (fun k hk => by
      by_cases h : k < n
      · exact wba_go n x hn k h (hx k h) fun S1 hk1 => .inl ⟨rfl, k + 1, h, by omega, hk1⟩
      · have e : k = n := by omega
        subst e
        exact wba_w1_ok k x ((k : Nat) : Int) false (decide_eq_false (by omega)) fun S1 hk1 => .inr ⟨rfl, hk1⟩) 0 (Nat.zero_le _)
noncomputable def wba_one (hn : n ≤ 20) (b : Nat) (hb : b < n) (hx : ∀ j, j < b → (x j).size ≤ 100 ∧ stB (x j) = true) (hbad : ¬ ((x b).size ≤ 100 ∧ stB (x b) = true)) : CodeC P :=
  loopC mo ZK (by rfl) 1 92 wba_b [900, 0] (fun k : Nat => wba_st n x ((k : Nat) : Int) false) (fun k => k ≤ b) (fun k => n - k) .ret (wba_st n x ((b : Nat) : Int) true) (by simp) (fun _ => rfl) rfl (fun _ => by kernel_rfl) (by kernel_rfl) [900] (fun _ => rfl) rfl
    (fun k hk => by
      by_cases h : k < b
      · exact wba_go n x hn k (by omega) (hx k h) fun S1 hk1 => .inl ⟨rfl, k + 1, h, by omega, hk1⟩
      · have e : k = b := by omega
        subst e
        by_cases hs : (x k).size ≤ 100
        · have hst : stB (x k) = false := by
            cases h : stB (x k) with
            | true => exact absurd ⟨hs, h⟩ hbad
            | false => rfl
          exact wba_w3_ok n x ((k : Nat) : Int) false (decide_eq_true (by omega)) (decide_eq_false (by show ¬ (((x k).size : Nat) : Int) > 100; omega)) hst rfl hb hb rfl hb hb (show (x k).size ≤ 500000 by omega) fun S1 hk1 => .inr ⟨rfl, hk1⟩
        · exact wba_w0_ok n x ((k : Nat) : Int) false (decide_eq_true (by omega)) (decide_eq_true (by show (((x k).size : Nat) : Int) > 100; omega)) rfl hb hb fun S1 hk1 => .inr ⟨rfl, hk1⟩) 0 (Nat.zero_le _)
end
section
variable (n : Nat) (x : Nat → ByteArray)
theorem atx_in {n : Nat} {x : Nat → ByteArray} (hx : ∀ j, j < n → (x j).size ≤ 100) : ∀ k, k ≤ n → 0 ≤ atx x k ∧ atx x k ≤ 101 * k
  | 0, _ => ⟨Int.le_refl _, Int.le_refl _⟩
  | k + 1, hk => by
    obtain ⟨h1, h2⟩ := atx_in hx k (by omega)
    have := hx k (by omega)
    have := cn_le (x k)
    show 0 ≤ atx x k + ((Tx.cn (x k) : Nat) : Int) + 1 ∧ atx x k + ((Tx.cn (x k) : Nat) : Int) + 1 ≤ 101 * ((k + 1 : Nat) : Int)
    omega
theorem jo_of {n : Nat} {x : Nat → ByteArray} (h1 : 1 ≤ n) (hx : ∀ j, j < n → (x j).size ≤ 100 ∧ stB (x j) = true) : Jo x n := by
  obtain ⟨m, rfl⟩ : ∃ m, n = m + 1 := ⟨n - 1, by omega⟩
  exact sw_join fun j hj => wd_of (hx j hj).2
noncomputable def wbb_all (hn : n ≤ 20) (hx : ∀ j, j < n → (x j).size ≤ 100 ∧ stB (x j) = true) (h1 : 1 ≤ n) : CodeC P :=
  loopC mo ZK (by rfl) 1 92 wbb_b [1800, 910, 10, 900, 0] (fun k : Nat => wbb_st n x ((k : Nat) : Int) (atx x k) false) (fun k => k ≤ n) (fun k => n - k) (.exit 2) (wbb_st n x ((n : Nat) : Int) (atx x n) false) (by simp) (fun _ => rfl) rfl (fun _ => by kernel_rfl) (by kernel_rfl) [1800, 910] (fun _ => rfl) rfl
    (fun k hk => by
      have J := jo_of h1 hx
      have hl : (sw (jF x n)).length = n := by rw [J.sw, wL_len]
      by_cases h : k < n
      · have hl' : k < (sw (jF x n)).length := by omega
        obtain ⟨a1, a2⟩ := atx_in (fun j hj => (hx j hj).1) k (by omega)
        have hs := (hx k h).1
        have hc := cn_le (x k)
        have ew : wAt (sw (jF x n)) k = (atx x k, x k) := by rw [J.sw]; exact wL_at h
        have e1 : IntKind.i64.wrap ((k : Int) + 1) = ((k + 1 : Nat) : Int) := by rw [wr (by omega) (by omega)]; rfl
        have e2 : IntKind.i64.wrap (IntKind.i64.wrap (atx x k + ((Tx.cn (x k) : Nat) : Int)) + 1) = atx x (k + 1) := by
          rw [wr (n := atx x k + ((Tx.cn (x k) : Nat) : Int)) (by omega) (by omega), wr (by omega) (by omega)]
          rfl
        refine wbb_w3_ok n x ((k : Nat) : Int) (atx x k) false (decide_eq_true (by omega)) (show ((wAt (sw (jF x n)) k).2.toList == (x k).toList) = true by rw [ew, tl_beq]; exact ba_self _) (show ((wAt (sw (jF x n)) k).1 != atx x k) = false by rw [ew]; simp) rfl hl' hl' rfl h h rfl hl' hl' rfl h h (show (x k).size ≤ 1000000 by omega) fun S1 hk1 => .inl ⟨rfl, k + 1, h, by omega, ?_⟩
        have hk1 : Keeps S1 (wbb_st n x (IntKind.i64.wrap ((k : Int) + 1)) (IntKind.i64.wrap (IntKind.i64.wrap (atx x k + ((Tx.cn (x k) : Nat) : Int)) + 1)) false) := hk1
        rw [e1, e2] at hk1
        exact hk1
      · have e : k = n := by omega
        subst e
        exact wbb_w1_ok k x ((k : Nat) : Int) (atx x k) false (decide_eq_false (by omega)) fun S1 hk1 => .inr ⟨rfl, hk1⟩) 0 (Nat.zero_le _)
end
noncomputable def ctW : Cts P := ⟨[wk_c, sp_c, ct_c, st_c], [wj_c], [sr_c]⟩
theorem wb_nil_run  : runD P (⟨ctW, [], 10, []⟩ : Env P) 3 4 [.v (.slice none 0 0)] (lits 4 (.b false :: (.lit :: (.b false :: [])))) = some (.bool true, [wjP [.v (.slice none 0 0)], sP spP [.string ByteArray.empty], ((bif sB ByteArray.empty then (10 : Int) else 0) != 0) = false, sP szP [.string ByteArray.empty], (((bp ByteArray.empty : Nat) : Int) != ((cn ByteArray.empty : Nat) : Int)) = false, kP []]) := by kernel_rfl
theorem wb_nil   : GivesD P 4 [.v (.slice none 0 0)] (.bool true) :=
  givesD_of_run mo (wb_nil_run ) (ps_cons rfl (ps_cons ⟨(show (0 : Nat) ≤ 1048576 by decide), .inr (by kernel_rfl)⟩ (ps_cons (by kernel_rfl) (ps_cons (show (0 : Nat) ≤ 1000000 by decide) (ps_cons (by kernel_rfl) (ps_cons trivial ps_nil)))))) (rfl)
theorem wb_many_run (n : Nat) (x : Nat → ByteArray) : runD P (⟨ctW, [], 10, []⟩ : Env P) 3 4 [.row ⟨9, 1, n, fun j => .string (x j), false⟩] (.b true :: []) = some (.bool true, [(decide (((n : Nat) : Int) > 20)) = true, kP []]) := by kernel_rfl
theorem wb_many (n : Nat) (x : Nat → ByteArray) (h : 20 < n) : GivesD P 4 [.row ⟨9, 1, n, fun j => .string (x j), false⟩] (.bool true) :=
  givesD_of_run mo (wb_many_run n x) (ps_cons (decide_eq_true (by omega)) (ps_cons trivial ps_nil)) (rfl)
theorem wb_one_run (n : Nat) (x : Nat → ByteArray) (hn : n ≤ 20) (b : Nat) (hb : b < n) (hx : ∀ j, j < b → (x j).size ≤ 100 ∧ stB (x j) = true) (hbad : ¬ ((x b).size ≤ 100 ∧ stB (x b) = true)) : runD P (⟨ctW, [wba_one n x hn b hb hx hbad], 10, []⟩ : Env P) 3 4 [.row ⟨9, 1, n, fun j => .string (x j), false⟩] (.b false :: (.n 0 :: [])) = some (.bool true, [(decide (((n : Nat) : Int) > 20)) = false, Code.loop wba_b = innerOf P 4 0, (.int .i64 0 : Value) = .int .i64 ((0 : Nat) : Int), (.bool false : Value) = .bool false, (.row 0 : SV) = .row 0, n = n, ∀ j, j < n → (.string (x j) : Value) = .string (x j)]) := by kernel_rfl
theorem wb_one (n : Nat) (x : Nat → ByteArray) (hn : n ≤ 20) (b : Nat) (hb : b < n) (hx : ∀ j, j < b → (x j).size ≤ 100 ∧ stB (x j) = true) (hbad : ¬ ((x b).size ≤ 100 ∧ stB (x b) = true))  : GivesD P 4 [.row ⟨9, 1, n, fun j => .string (x j), false⟩] (.bool true) :=
  givesD_of_run mo (wb_one_run n x hn b hb hx hbad) (ps_cons (decide_eq_false (by omega)) (ps_cons (by kernel_rfl) (ps_cons rfl (ps_cons rfl (ps_cons rfl (ps_cons rfl (ps_cons (fun _ _ => rfl) ps_nil))))))) (rfl)
theorem wb_all_run (n : Nat) (x : Nat → ByteArray) (hn : n ≤ 20) (hx : ∀ j, j < n → (x j).size ≤ 100 ∧ stB (x j) = true) (h1 : 1 ≤ n) : runD P (⟨ctW, [wba_all n x hn hx, wbb_all n x hn hx h1], 10, []⟩ : Env P) 3 4 [.row ⟨9, 1, n, fun j => .string (x j), false⟩] (.b false :: (.n 0 :: (.b true :: (.lit :: (.b false :: (.b false :: (.n 1 :: []))))))) = some (.bool true, [(decide (((n : Nat) : Int) > 20)) = false, Code.loop wba_b = innerOf P 4 0, (.int .i64 0 : Value) = .int .i64 ((0 : Nat) : Int), (.bool false : Value) = .bool false, (.row 0 : SV) = .row 0, n = n, ∀ j, j < n → (.string (x j) : Value) = .string (x j), wjP [.row ⟨9, 1, n, fun j => .string (x j), false⟩], srP [.v (.string (jF x n))], ((((sw (jF x n)).length : Nat) : Int) != ((n : Nat) : Int)) = false, sP szP [.string (jF x n)], (((cn (jF x n) : Nat) : Int) != ((cn (jF x n) : Nat) : Int)) = false, Code.loop wbb_b = innerOf P 4 1, (.int .i64 0 : Value) = .int .i64 ((0 : Nat) : Int), (.int .i64 0 : Value) = .int .i64 (atx x 0), (.bool false : Value) = .bool false, (.row 900 : SV) = .row 900, (.row 10 : SV) = .row 10, n = n, ∀ j, j < n → (.string (x j) : Value) = .string (x j), (sw (jF x n)).length = (sw (jF x n)).length, ∀ j, j < (sw (jF x n)).length → we (sw (jF x n)) j = we (sw (jF x n)) j, kP []]) := by kernel_rfl
theorem wb_all (n : Nat) (x : Nat → ByteArray) (hn : n ≤ 20) (hx : ∀ j, j < n → (x j).size ≤ 100 ∧ stB (x j) = true) (h1 : 1 ≤ n) (hz : (jF x n).size ≤ 1048576) (hz1 : (jF x n).size ≤ 1000000) (hB : sB (jF x n) = false) (hW : sw (jF x n) ≠ []) (hl : (sw (jF x n)).length = n) : GivesD P 4 [.row ⟨9, 1, n, fun j => .string (x j), false⟩] (.bool true) :=
  givesD_of_run mo (wb_all_run n x hn hx h1) (ps_cons (decide_eq_false (by omega)) (ps_cons (by kernel_rfl) (ps_cons rfl (ps_cons rfl (ps_cons rfl (ps_cons rfl (ps_cons (fun _ _ => rfl) (ps_cons ⟨rfl, rfl, (show (n : Nat) ≤ 1000 by omega), hx3 fun j hj => (hx j hj).1⟩ (ps_cons ⟨hz, hB, hW⟩ (ps_cons (by rw [hl]; simp) (ps_cons (show _ ≤ 1000000 by omega) (ps_cons (by simp) (ps_cons (by kernel_rfl) (ps_cons rfl (ps_cons rfl (ps_cons rfl (ps_cons rfl (ps_cons rfl (ps_cons rfl (ps_cons (fun _ _ => rfl) (ps_cons rfl (ps_cons (fun _ _ => rfl) (ps_cons trivial ps_nil))))))))))))))))))))))) (rfl)
theorem wb_zero_run (x : Nat → ByteArray) : runD P (⟨ctW, [], 10, []⟩ : Env P) 3 4 [.row ⟨9, 1, 0, fun j => .string (x j), false⟩] (lits 4 (.b false :: (.lit :: (.b false :: [])))) = some (.bool true, [wjP [.row ⟨9, 1, 0, fun j => .string (x j), false⟩], sP spP [.string (jF x 0)], ((bif sB (jF x 0) then (10 : Int) else 0) != 0) = false, sP szP [.string (jF x 0)], (((bp (jF x 0) : Nat) : Int) != ((cn (jF x 0) : Nat) : Int)) = false, kP []]) := by kernel_rfl
theorem wb_zero (x : Nat → ByteArray)  : GivesD P 4 [.row ⟨9, 1, 0, fun j => .string (x j), false⟩] (.bool true) :=
  givesD_of_run mo (wb_zero_run x) (ps_cons ⟨rfl, rfl, (show (0 : Nat) ≤ 1000 by omega), hx3 fun j hj => absurd hj (Nat.not_lt_zero j)⟩ (ps_cons ⟨(show (0 : Nat) ≤ 1048576 by decide), .inr (by kernel_rfl)⟩ (ps_cons (by kernel_rfl) (ps_cons (show (0 : Nat) ≤ 1000000 by decide) (ps_cons (by kernel_rfl) (ps_cons trivial ps_nil)))))) (rfl)
theorem wb_row (n : Nat) (x : Nat → ByteArray) : GivesD P 4 [.row ⟨9, 1, n, fun j => .string (x j), false⟩] (.bool true) := by
  by_cases h20 : 20 < n
  · exact wb_many n x h20
  · rcases first_not (p := fun j => (x j).size ≤ 100 ∧ stB (x j) = true) n with hx | ⟨b, hb, hx, hbad⟩
    · rcases Nat.eq_zero_or_pos n with e | h1
      · subst e
        exact wb_zero x
      · have J := jo_of h1 hx
        have hz := jF_size (x := x) (m := 100) (k := n) fun j hj => (hx j hj).1
        have : n * (100 + 1) ≤ 20 * 101 := Nat.mul_le_mul (by omega) (Nat.le_refl _)
        have hl : (sw (jF x n)).length = n := by rw [J.sw, wL_len]
        exact wb_all n x (by omega) hx h1 (by omega) (by omega) ((ok_iff _).2 J.ok) (fun e => by rw [e] at hl; simp at hl; omega) hl
    · exact wb_one n x (by omega) b hb hx hbad
end Go.Tx
