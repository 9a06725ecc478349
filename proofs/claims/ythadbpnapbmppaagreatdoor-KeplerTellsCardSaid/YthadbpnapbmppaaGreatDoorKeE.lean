/-
  Laws of chapter 20: facts, may, wakes. Printed by keE.py.
-/
import Derived.Test.YthadbpnapbmppaaGreatDoorKeD
import Derived.Test.YthadbpnapbmppaaGreatDoorRf5
set_option maxRecDepth 100000
namespace Go.Ke
open Go Go.RowKit Go.Sx Go.Nm Go.Wd Go.Qt Go.Iv Go.An Go.Wv Go.Nv Go.Proofs
structure So (m e f : Int) (k : Nat) : Prop where
  i : soI m e f = ⟨(hv m e (-1) k).1, (hv m e 1 k).1, false⟩
  n : soN m e f = 2 * k
  ee : soE m e f = bif decide (f ≥ 31) then 0 else 200
  kk : (k : Int) = mn f 31
  k31 : k ≤ 31
  l : HvF m e (-1) k
  u : HvF m e 1 k
theorem so {m e f : Int} (h : mB m e = true) (g : fB f = true) : So m e f (mn f 31).toNat := by
  have a := mB_iff.1 h
  have b := fB_iff.1 g
  have k0 : ((mn f 31).toNat : Int) = mn f 31 := by unfold mn; split <;> omega
  have k1 : (mn f 31).toNat ≤ 31 := by unfold mn; split <;> omega
  refine ⟨?_, ?_, ?_, k0, k1, hv_facts a.1 a.2.1 a.2.2.1 a.2.2.2 (.inl rfl) _ k1, hv_facts a.1 a.2.1 a.2.2.1 a.2.2.2 (.inr rfl) _ k1⟩
  · unfold soI; rw [h, g]; rfl
  · unfold soN haN; rw [h, g]
    show IntKind.i64.wrap (mn f 31 + mn f 31) = _
    rw [← k0, Iv.wr (by omega) (by omega)]; omega
  · unfold soE haD; rw [h, g]; rfl
theorem so40 {m e : Int} (h : mB m e = true) : So m e 40 31 := so h (f := 40) rfl
theorem gp_of {m e p : Int} (h : mB m e = true) (h1 : m - 1073741824 ≤ p) (h2 : p ≤ m + 1073741824) : pB p = true ∧ gpI m e p = gapI m e p ∧ gpE m e p = 0 := by
  have a := mB_iff.1 h
  have b : pB p = true := pB_iff.2 ⟨by omega, by omega⟩
  refine ⟨b, ?_, ?_⟩
  · unfold gpI; rw [h, b]; rfl
  · unfold gpE; rw [h, b]; rfl
structure Nr (m e : Int) : Prop where
  p : nrP m e = ((hv m e (-1) 31).1 + (hv m e 1 31).1) / 2
  r : nrR m e = mx ((hv m e 1 31).1 - ((hv m e (-1) 31).1 + (hv m e 1 31).1) / 2) (((hv m e (-1) 31).1 + (hv m e 1 31).1) / 2 - (hv m e (-1) 31).1)
  e : nrE m e = 0
theorem nr {m e : Int} (h : mB m e = true) : Nr m e := by
  have s := so40 h
  have a := mB_iff.1 h
  have e0 : (soE m e 40 == 2) = false := by rw [s.ee]; rfl
  have l1 := s.l.a1
  have l2 := s.l.a2
  have u1 := s.u.a1
  have u2 := s.u.a2
  have w : (IntKind.i64.wrap ((hv m e (-1) 31).1 + (hv m e 1 31).1)).fdiv (2 ^ 1) = ((hv m e (-1) 31).1 + (hv m e 1 31).1) / 2 := by
    rw [Iv.wr (by omega) (by omega), Int.fdiv_eq_ediv_of_nonneg _ (by decide)]; rfl
  refine ⟨?_, ?_, ?_⟩
  · unfold nrP; rw [e0, s.i]; exact w
  · unfold nrR; rw [e0, s.i]
    show mx (IntKind.i64.wrap ((hv m e 1 31).1 - (IntKind.i64.wrap ((hv m e (-1) 31).1 + (hv m e 1 31).1)).fdiv (2 ^ 1))) (IntKind.i64.wrap ((IntKind.i64.wrap ((hv m e (-1) 31).1 + (hv m e 1 31).1)).fdiv (2 ^ 1) - (hv m e (-1) 31).1)) = _
    rw [w, Iv.wr (by omega) (by omega), Iv.wr (by omega) (by omega)]
  · unfold nrE; rw [e0]; rfl
theorem bq {a b : Int} (h : a = b) : (a == b) = true := by rw [h]; exact beq_self_eq_true _
theorem iv_is {a : Iv} {l u : Int} (h : a = ⟨l, u, false⟩) : ((a.lo == l) && ((a.hi == u) && (a.bad == false))) = true := by rw [h]; simp
noncomputable def E0 : Env P := ⟨⟨[], [rFine]⟩, [], 10, []⟩
def mbV : List Value → Value
  | [.int _ m, .int _ e] => .bool (mB m e)
  | _ => undef
def wakesP : List Value → Prop
  | [] => True
  | _ => False
def wakesV : List Value → Value
  | [] => .bool true
  | _ => undef
noncomputable def EW : Env P := ⟨⟨kepC, []⟩, [], 20, []⟩
theorem sg_three (m e p : Int) : sg m e p = 1 ∨ sg m e p = -1 ∨ sg m e p = 0 := by
  unfold sg signN
  cases fineL [gapI m e p] with
  | false => exact .inr (.inr rfl)
  | true =>
    by_cases h1 : (gapI m e p).lo > 0
    · exact .inl (if_pos h1)
    · by_cases h2 : (gapI m e p).hi < 0
      · exact .inr (.inl ((if_neg h1).trans (if_pos h2)))
      · exact .inr (.inr ((if_neg h1).trans (if_neg h2)))
theorem be_at (p : Int) (h1 : -1073741822 ≤ p) (h2 : p ≤ 1073741826) : beB 2 0 p = decide (p < 2) := by
  have M : mB 2 0 = true := rfl
  obtain ⟨b, g, e⟩ := gp_of (m := 2) (e := 0) (p := p) M (by omega) (by omega)
  have h : May 2 0 p := may_of M b
  have k := (gp h).k
  have z := gap0_zero (p := p) h.p1 h.p2
  have c := sg_cases h
  rw [k] at c
  have c1 : sg 2 0 p = 1 ↔ 0 < (gap0 0 p).lo - 2 := c.1
  have c2 : sg 2 0 p = -1 ↔ (gap0 0 p).hi - 2 < 0 := c.2
  rw [z.1] at c1
  rw [z.2] at c2
  unfold beB
  rw [e, g]
  show (true && decide (sg 2 0 p < 0)) = _
  rw [Bool.true_and, decide_eq_decide]
  have r := sg_three 2 0 p
  omega
theorem be1 : beB 2 0 1 = true := by rw [be_at 1 (by decide) (by decide)]; rfl
theorem be2 : beB 2 0 2 = false := by rw [be_at 2 (by decide) (by decide)]; rfl
theorem wakes_run : runF P EW 1 19 [] (.b true :: (.b true :: (.b true :: (.b true :: (.b true :: (.b true :: (.b true :: (.b true :: (.b true :: (.b true :: (.b true :: (.b true :: (.b true :: []))))))))))))) = some (.bool (!(beB 2 0 2)), [i3P [.int .i64 0, .int .i64 0, .int .i64 0], i3P [.int .i64 1073741824, .int .i64 0, .int .i64 40], i3P [.int .i64 0, .int .i64 1073741824, .int .i64 0], i2P [.int .i64 0, .int .i64 0], i3P [.int .i64 0, .int .i64 0, .int .i64 5368709120], (((soI 0 0 0).lo == -1073741824) && (((soI 0 0 0).hi == 1073741824) && (((soI 0 0 0).bad) == false))) = true, (soN 0 0 0 == 0) = true, (soE 0 0 0 == 200) = true, (((soI 1073741824 0 40).lo == 1073741823) && (((soI 1073741824 0 40).hi == 1073741825) && (((soI 1073741824 0 40).bad) == false))) = true, (soN 1073741824 0 40 == 62) = true, (soE 1073741824 0 40 == 0) = true, (soE 0 1073741824 0 == 2) = true, (nrP 0 0 == 0) = true, (nrR 0 0 == 1) = true, (nrE 0 0 == 0) = true, (gpE 0 0 5368709120 == 2) = true, i3P [.int .i64 (-1), .int .i64 0, .int .i64 0], (!(beB (-1) 0 0)) = true, i3P [.int .i64 2, .int .i64 0, .int .i64 1], (beB 2 0 1) = true, i3P [.int .i64 2, .int .i64 0, .int .i64 2]]) := by kernel_rfl
theorem wakes_gives (args : List Value) (h : wakesP args) : Gives P 19 args.toArray (wakesV args) := by
  unfold wakesP at h
  split at h
  · exact gives_of_run mo wakes_run (ps_cons ⟨by unfold I64; decide, by unfold I64; decide, by unfold I64; decide⟩ (ps_cons ⟨by unfold I64; decide, by unfold I64; decide, by unfold I64; decide⟩ (ps_cons ⟨by unfold I64; decide, by unfold I64; decide, by unfold I64; decide⟩ (ps_cons ⟨by unfold I64; decide, by unfold I64; decide⟩ (ps_cons ⟨by unfold I64; decide, by unfold I64; decide, by unfold I64; decide⟩ (ps_cons (iv_is (so (m := 0) (e := 0) (f := 0) rfl rfl).i) (ps_cons (by decide) (ps_cons (by decide) (ps_cons (iv_is (by rw [(so40 (m := 1073741824) (e := 0) rfl).i, (circle (m := 1073741824) (by decide) (by decide)).1, (circle (m := 1073741824) (by decide) (by decide)).2]; rfl)) (ps_cons (by decide) (ps_cons (by decide) (ps_cons (by decide) (ps_cons (bq (by rw [(nr (m := 0) (e := 0) rfl).p, (circle (m := 0) (by decide) (by decide)).1, (circle (m := 0) (by decide) (by decide)).2]; rfl)) (ps_cons (bq (by rw [(nr (m := 0) (e := 0) rfl).r, (circle (m := 0) (by decide) (by decide)).1, (circle (m := 0) (by decide) (by decide)).2]; rfl)) (ps_cons (bq (nr (m := 0) (e := 0) rfl).e) (ps_cons (by decide) (ps_cons ⟨by unfold I64; decide, by unfold I64; decide, by unfold I64; decide⟩ (ps_cons (by unfold beB gpE; rfl) (ps_cons ⟨by unfold I64; decide, by unfold I64; decide, by unfold I64; decide⟩ (ps_cons be1 (ps_cons ⟨by unfold I64; decide, by unfold I64; decide, by unfold I64; decide⟩ ps_nil))))))))))))))))))))) (by rw [be2]; rfl)
  · exact h.elim
noncomputable def kWakes : Ctr P := ⟨19, wakesP, wakesV, wakes_gives⟩
end Go.Ke
