/-
  The laws over wide numbers: what the functions WideRing, WideOver, WideOrder, WideSquares return.
  Printed by laws02b.py.
-/
import Derived.Test.YtcddfemcjmoolaaLawA
namespace Go.Wd
open Go Go.RowKit Go.Sx Go.Nm Go.Proofs

noncomputable def EK : Env P := ⟨wideC, [], 10⟩
theorem wakes_run0  : runF P EK 1 13 [] (.b true :: (.b true :: (.b true :: (.b true :: (.b true :: (.b true :: (.b true :: (.b true :: (.b true :: (.b true :: (.b true :: (.b true :: [])))))))))))) =
  some (.bool (cmp3 (tI (W 0)) 0 == 0),
    [P2 [W 170141183460469231731687303715884105728, W 170141183460469231731687303715884105728],
     ofP [.int .i64 1],
     P2 [W 57896044618658097711785492504343953926634992332820282019728792003956564819967, W 1],
     ofP [.int .i64 (-7)],
     P1 [W (-7)],
     P1 [W 57896044618658097711785492504343953926634992332820282019728792003956564819967],
     P1 [W (tI (W 57896044618658097711785492504343953926634992332820282019728792003956564819967) + tI (W 1))],
     ofP [.int .i64 (-3)],
     ofP [.int .i64 5],
     P2 [W (-3), W 5],
     (weq (tI (W 170141183460469231731687303715884105728) * tI (W 170141183460469231731687303715884105728)) 28948022309329048855892746252171976963317496166410141009864396001978282409984) = true,
     (!(!inRB (tI (W 170141183460469231731687303715884105728) * tI (W 170141183460469231731687303715884105728)))) = true,
     (weq (tI (W 57896044618658097711785492504343953926634992332820282019728792003956564819967) + tI (W 1)) (-57896044618658097711785492504343953926634992332820282019728792003956564819968)) = true,
     (!inRB (tI (W 57896044618658097711785492504343953926634992332820282019728792003956564819967) + tI (W 1))) = true,
     ((if i64B (tI (W (-7))) then tI (W (-7)) else 0) == -7) = true,
     (i64B (tI (W (-7)))) = true,
     (!(i64B (tI (W 57896044618658097711785492504343953926634992332820282019728792003956564819967)))) = true,
     (weq (-tI (W (tI (W 57896044618658097711785492504343953926634992332820282019728792003956564819967) + tI (W 1)))) (tI (W 57896044618658097711785492504343953926634992332820282019728792003956564819967) + tI (W 1))) = true,
     (!inRB (-tI (W (tI (W 57896044618658097711785492504343953926634992332820282019728792003956564819967) + tI (W 1))))) = true,
     ofP [.int .i64 (-15)],
     (weq (tI (W (-3)) * tI (W 5)) (-15)) = true,
     P2 [W (tI (W 57896044618658097711785492504343953926634992332820282019728792003956564819967) + tI (W 1)), W 57896044618658097711785492504343953926634992332820282019728792003956564819967],
     (cmp3 (tI (W (tI (W 57896044618658097711785492504343953926634992332820282019728792003956564819967) + tI (W 1)))) (tI (W 57896044618658097711785492504343953926634992332820282019728792003956564819967)) == -1) = true,
     P1 [W (tI (W (-3)) * tI (W 5))],
     (cmp3 (tI (W (tI (W (-3)) * tI (W 5)))) 0 == -1) = true,
     P1 [W 0]]) := by kernel_rfl

theorem wakes_gives   : Gives P 13 #[] (.bool true) := by
  have q1 : (weq (tI (W 170141183460469231731687303715884105728) * tI (W 170141183460469231731687303715884105728)) 28948022309329048855892746252171976963317496166410141009864396001978282409984) = true := by kernel_rfl
  have q2 : (!(!inRB (tI (W 170141183460469231731687303715884105728) * tI (W 170141183460469231731687303715884105728)))) = true := by kernel_rfl
  have q3 : (weq (tI (W 57896044618658097711785492504343953926634992332820282019728792003956564819967) + tI (W 1)) (-57896044618658097711785492504343953926634992332820282019728792003956564819968)) = true := by kernel_rfl
  have q4 : (!inRB (tI (W 57896044618658097711785492504343953926634992332820282019728792003956564819967) + tI (W 1))) = true := by kernel_rfl
  have q5 : ((if i64B (tI (W (-7))) then tI (W (-7)) else 0) == -7) = true := by kernel_rfl
  have q6 : (i64B (tI (W (-7)))) = true := by kernel_rfl
  have q7 : (!(i64B (tI (W 57896044618658097711785492504343953926634992332820282019728792003956564819967)))) = true := by kernel_rfl
  have q8 : (weq (-tI (W (tI (W 57896044618658097711785492504343953926634992332820282019728792003956564819967) + tI (W 1)))) (tI (W 57896044618658097711785492504343953926634992332820282019728792003956564819967) + tI (W 1))) = true := by kernel_rfl
  have q9 : (!inRB (-tI (W (tI (W 57896044618658097711785492504343953926634992332820282019728792003956564819967) + tI (W 1))))) = true := by kernel_rfl
  have q10 : (weq (tI (W (-3)) * tI (W 5)) (-15)) = true := by kernel_rfl
  have q11 : (cmp3 (tI (W (tI (W 57896044618658097711785492504343953926634992332820282019728792003956564819967) + tI (W 1)))) (tI (W 57896044618658097711785492504343953926634992332820282019728792003956564819967)) == -1) = true := by kernel_rfl
  have q12 : (cmp3 (tI (W (tI (W (-3)) * tI (W 5)))) 0 == -1) = true := by kernel_rfl
  exact gives_of_run mo (wakes_run0 ) (ps_cons ⟨⟨_, rfl⟩, ⟨_, rfl⟩⟩ (ps_cons ⟨by decide, by decide⟩ (ps_cons ⟨⟨_, rfl⟩, ⟨_, rfl⟩⟩ (ps_cons ⟨by decide, by decide⟩ (ps_cons ⟨_, rfl⟩ (ps_cons ⟨_, rfl⟩ (ps_cons ⟨_, rfl⟩ (ps_cons ⟨by decide, by decide⟩ (ps_cons ⟨by decide, by decide⟩ (ps_cons ⟨⟨_, rfl⟩, ⟨_, rfl⟩⟩ (ps_cons q1 (ps_cons q2 (ps_cons q3 (ps_cons q4 (ps_cons q5 (ps_cons q6 (ps_cons q7 (ps_cons q8 (ps_cons q9 (ps_cons ⟨by decide, by decide⟩ (ps_cons q10 (ps_cons ⟨⟨_, rfl⟩, ⟨_, rfl⟩⟩ (ps_cons q11 (ps_cons ⟨_, rfl⟩ (ps_cons q12 (ps_cons ⟨_, rfl⟩ ps_nil)))))))))))))))))))))))))) (by kernel_rfl)

def wakesP : List Value → Prop
  | [] => True
  | _ => False
theorem wakes_ok (args : List Value) (h : wakesP args) : Gives P 13 args.toArray (.bool true) := by
  unfold wakesP at h
  split at h
  · exact wakes_gives
  · exact h.elim
noncomputable def wakes : Ctr P := ⟨13, wakesP, fun _ => .bool true, wakes_ok⟩
noncomputable def EL : Env P := ⟨wakes :: wideC, [], 10⟩

theorem add64_in {n m : Int} (hn : I64 n) (hm : I64 m) : InR (n + m) := by unfold I64 InR at *; simp only [HH]; omega
theorem sub64_in {n m : Int} (hn : I64 n) (hm : I64 m) : InR (n - m) := by unfold I64 InR at *; simp only [HH]; omega
theorem i64B_iff {n : Int} : i64B n = true ↔ I64 n := by unfold i64B I64; simp
theorem int_same {n m : Int} (hn : I64 n) (hm : I64 m) (h : i64B (tI (W (tI (W n) + tI (W m)))) = true) :
    ((if i64B (tI (W (tI (W n) + tI (W m)))) then tI (W (tI (W n) + tI (W m))) else 0) != IntKind.i64.wrap (n + m)) = false := by
  rw [if_pos h]
  simp only [tI_in (inR64 hn), tI_in (inR64 hm), tI_in (add64_in hn hm)] at h ⊢
  have := i64B_iff.1 h
  rw [wrap_i64_in this.1 this.2]
  exact bne_self_eq_false _
theorem nn_true {b : Bool} (h : (!b) = false) : b = true := by revert h; cases b <;> simp
theorem nn_false {b : Bool} (h : (!b) = true) : b = false := by revert h; cases b <;> simp
theorem nn_in {x : Int} (h : (!(!inRB x)) = true) : InR x := by rw [Bool.not_not] at h; exact inRB_iff.1 h
theorem nn_out {x : Int} (h : (!(!inRB x)) = false) : inRB x = false := by rw [Bool.not_not] at h; exact h
theorem bne_f {x y : Int} (h : x = y) : (x != y) = false := by rw [h]; exact bne_self_eq_false _
theorem sum_a {a b : Int} (ha : InR a) (hb : InR b) (h : (!(!inRB (tI (W a) + tI (W b)))) = true) : (cmp3 (tI (W (tI (W a) + tI (W b)))) (tI (W a)) != cmp3 (tI (W b)) 0) = false := by
  simp only [tI_in ha, tI_in hb] at *
  rw [tI_in (nn_in h)]
  exact bne_f (by unfold cmp3; omega)
theorem sum_b {a b : Int} (ha : InR a) (hb : InR b) (h : (!(!inRB (tI (W a) + tI (W b)))) = true) : (cmp3 (tI (W (tI (W a) + tI (W b)))) (tI (W b)) != cmp3 (tI (W a)) 0) = false := by
  simp only [tI_in ha, tI_in hb] at *
  rw [tI_in (nn_in h)]
  exact bne_f (by unfold cmp3; omega)
theorem sum_s {a b : Int} (ha : InR a) (hb : InR b) (h : (!(!inRB (tI (W a) + tI (W b)))) = false) : (cmp3 (tI (W a)) 0 != cmp3 (tI (W b)) 0) = false := by
  simp only [tI_in ha, tI_in hb] at *
  exact bne_f (sum_over ha hb (nn_out h)).1
theorem sum_n {a b : Int} (ha : InR a) (hb : InR b) (h : (!(!inRB (tI (W a) + tI (W b)))) = false) : (cmp3 (tI (W (tI (W a) + tI (W b)))) (tI (W a)) == cmp3 (tI (W b)) 0) = false := by
  simp only [tI_in ha, tI_in hb] at *
  rw [tI_W]
  exact beq_eq_false_iff_ne.2 (sum_over ha hb (nn_out h)).2
theorem dif_s {a b : Int} (ha : InR a) (hb : InR b) (h : (!inRB (tI (W a) - tI (W b))) = false) : (cmp3 (tI (W (tI (W a) - tI (W b)))) 0 == cmp3 (tI (W a)) (tI (W b))) = true := by
  simp only [tI_in ha, tI_in hb] at *
  rw [tI_in (inRB_iff.1 (nn_true h)), cmp3_sub]
  exact beq_self_eq_true _
theorem ord_eq {a b : Int} (ha : InR a) (hb : InR b) : ((cmp3 (tI (W a)) (tI (W b)) == 0) != (weq a b)) = false := by
  simp only [tI_in ha, tI_in hb]
  rw [weq_eq]
  have e : (cmp3 a b == 0) = decide (a % MM = b % MM) := by
    rw [Bool.eq_iff_iff, beq_iff_eq, cmp3_0, decide_eq_true_iff]
    unfold InR at *
    simp only [MM, HH] at *
    omega
  rw [e]
  exact bne_self_eq_false _
theorem ord_n (x y : Int) : (cmp3 y x != IntKind.i64.wrap (0 - (cmp3 x y))) = false := by
  have := cmp3_r x y
  rw [wrap_small (by omega)]
  exact bne_f (by rw [cmp3_neg x y]; omega)
theorem ord_t {x y z : Int} (h : decide (cmp3 x y ≤ 0) = true) (k : decide (cmp3 y z ≤ 0) = true) : decide (cmp3 x z > 0) = false := by
  have h := of_decide_eq_true h
  have k := of_decide_eq_true k
  exact decide_eq_false (by unfold cmp3 at *; omega)
theorem ord_neg {a b : Int} (ha : InR a) (hb : InR b) (h : (!inRB (-tI (W a))) = false) (k : (!inRB (-tI (W b))) = false) :
    (cmp3 (tI (W (-tI (W a)))) (tI (W (-tI (W b)))) == IntKind.i64.wrap (0 - (cmp3 (tI (W a)) (tI (W b))))) = true := by
  simp only [tI_in ha, tI_in hb] at *
  have := cmp3_r a b
  rw [tI_in (inRB_iff.1 (nn_true h)), tI_in (inRB_iff.1 (nn_true k)), wrap_small (by omega)]
  exact beq_iff_eq.2 (by unfold cmp3; omega)
theorem sq_pos {x : Int} (h : (!(!inRB (x * x))) = true) : decide (cmp3 (tI (W (x * x))) 0 < 0) = false := by
  rw [tI_in (nn_in h)]
  have : 0 ≤ x * x := by
    rcases Int.le_total 0 x with k | k
    · exact Int.mul_nonneg k k
    · exact Int.mul_nonneg_of_nonpos_of_nonpos k k
  exact decide_eq_false (by unfold cmp3; omega)
theorem sq_mono {a b : Int} (ha : InR a) (hb : InR b) (h : (!(!inRB (tI (W a) * tI (W a)))) = true) (k : (!(!inRB (tI (W b) * tI (W b)))) = true)
    (h1 : decide (cmp3 (tI (W a)) 0 ≥ 0) = true) (k1 : decide (cmp3 (tI (W b)) 0 ≥ 0) = true) :
    (cmp3 (tI (W (tI (W a) * tI (W a)))) (tI (W (tI (W b) * tI (W b)))) != cmp3 (tI (W a)) (tI (W b))) = false := by
  simp only [tI_in ha, tI_in hb] at *
  rw [tI_in (nn_in h), tI_in (nn_in k)]
  have h1 := of_decide_eq_true h1
  have k1 := of_decide_eq_true k1
  have h2 : 0 ≤ a := by unfold cmp3 at h1; omega
  have k2 : 0 ≤ b := by unfold cmp3 at k1; omega
  refine bne_f ?_
  rcases Int.lt_trichotomy a b with hx | hx | hx
  · have : a * a < b * b := Int.mul_self_lt_mul_self h2 hx
    unfold cmp3; omega
  · subst hx; unfold cmp3; omega
  · have : b * b < a * a := Int.mul_self_lt_mul_self k2 hx
    unfold cmp3; omega
theorem ring_run0 (a b c : Int) : runF P EL 1 3 [W a, W b, W c] (.b false :: (.b false :: (.b false :: (.b true :: (.b true :: (.b true :: (.b true :: (.b true :: (.b true :: (.b true :: (.b true :: []))))))))))) =
  some (.bool true,
    [P2 [W a, W b],
     P2 [W b, W a],
     P2 [W b, W c],
     P2 [W (tI (W a) + tI (W b)), W c],
     P2 [W a, W (tI (W b) + tI (W c))],
     P2 [W (tI (W a) + tI (W b)), W b],
     (!(weq (tI (W a) + tI (W b)) (tI (W b) + tI (W a)))) = false,
     (!(weq (tI (W (tI (W a) + tI (W b))) + tI (W c)) (tI (W a) + tI (W (tI (W b) + tI (W c)))))) = false,
     (!(weq (tI (W (tI (W a) + tI (W b))) - tI (W b)) a)) = false,
     P2 [W a, W b],
     P2 [W b, W a],
     P2 [W (tI (W a) * tI (W b)), W c],
     P2 [W b, W c],
     P2 [W a, W (tI (W b) * tI (W c))],
     P2 [W a, W (tI (W b) + tI (W c))],
     P2 [W a, W c],
     P2 [W (tI (W a) * tI (W b)), W (tI (W a) * tI (W c))],
     ofP [.int .i64 1],
     P2 [W a, W 1],
     ofP [.int .i64 (-1)],
     P2 [W a, W (-1)],
     P1 [W a],
     P2 [W a, W 0],
     (weq (tI (W a) * tI (W b)) (tI (W b) * tI (W a))) = true,
     (weq (tI (W (tI (W a) * tI (W b))) * tI (W c)) (tI (W a) * tI (W (tI (W b) * tI (W c))))) = true,
     (weq (tI (W a) * tI (W (tI (W b) + tI (W c)))) (tI (W (tI (W a) * tI (W b))) + tI (W (tI (W a) * tI (W c))))) = true,
     (weq (tI (W a) * tI (W 1)) a) = true,
     (!(!inRB (tI (W a) * tI (W 1)))) = true,
     (weq (tI (W a) * tI (W (-1))) (-tI (W a))) = true,
     (weq (tI (W a) * tI (W 0)) 0) = true,
     (!(!inRB (tI (W a) * tI (W 0)))) = true,
     wakesP []]) := by kernel_rfl

theorem ring_calls (a b c : Int) (ha : InR a)  : ∀ w, Calls P 3 #[W a, W b, W c] w fun e w' => e = .returned (.bool true) ∧ Below w.heap.size w w' := by
  have q1 : (!(weq (tI (W a) + tI (W b)) (tI (W b) + tI (W a)))) = false := nweq (weq_o (by (repeat first | rw [o_tI] | rw [o_add] | rw [o_mul] | rw [o_sub] | rw [o_neg] | rw [o_one] | rw [o_zero]) <;> grind))
  have q2 : (!(weq (tI (W (tI (W a) + tI (W b))) + tI (W c)) (tI (W a) + tI (W (tI (W b) + tI (W c)))))) = false := nweq (weq_o (by (repeat first | rw [o_tI] | rw [o_add] | rw [o_mul] | rw [o_sub] | rw [o_neg] | rw [o_one] | rw [o_zero]) <;> grind))
  have q3 : (!(weq (tI (W (tI (W a) + tI (W b))) - tI (W b)) a)) = false := nweq (weq_o (by (repeat first | rw [o_tI] | rw [o_add] | rw [o_mul] | rw [o_sub] | rw [o_neg] | rw [o_one] | rw [o_zero]) <;> grind))
  have q4 : (weq (tI (W a) * tI (W b)) (tI (W b) * tI (W a))) = true := (weq_o (by (repeat first | rw [o_tI] | rw [o_add] | rw [o_mul] | rw [o_sub] | rw [o_neg] | rw [o_one] | rw [o_zero]) <;> grind))
  have q5 : (weq (tI (W (tI (W a) * tI (W b))) * tI (W c)) (tI (W a) * tI (W (tI (W b) * tI (W c))))) = true := (weq_o (by (repeat first | rw [o_tI] | rw [o_add] | rw [o_mul] | rw [o_sub] | rw [o_neg] | rw [o_one] | rw [o_zero]) <;> grind))
  have q6 : (weq (tI (W a) * tI (W (tI (W b) + tI (W c)))) (tI (W (tI (W a) * tI (W b))) + tI (W (tI (W a) * tI (W c))))) = true := (weq_o (by (repeat first | rw [o_tI] | rw [o_add] | rw [o_mul] | rw [o_sub] | rw [o_neg] | rw [o_one] | rw [o_zero]) <;> grind))
  have q7 : (weq (tI (W a) * tI (W 1)) a) = true := (weq_o (by (repeat first | rw [o_tI] | rw [o_add] | rw [o_mul] | rw [o_sub] | rw [o_neg] | rw [o_one] | rw [o_zero]) <;> grind))
  have q8 : (!(!inRB (tI (W a) * tI (W 1)))) = true := by simp only [tI_in ha, tI_in inR_1, Int.mul_one]; rw [inRB_of ha]; rfl
  have q9 : (weq (tI (W a) * tI (W (-1))) (-tI (W a))) = true := (weq_o (by (repeat first | rw [o_tI] | rw [o_add] | rw [o_mul] | rw [o_sub] | rw [o_neg] | rw [o_one] | rw [o_zero]) <;> grind))
  have q10 : (weq (tI (W a) * tI (W 0)) 0) = true := (weq_o (by (repeat first | rw [o_tI] | rw [o_add] | rw [o_mul] | rw [o_sub] | rw [o_neg] | rw [o_one] | rw [o_zero]) <;> grind))
  have q11 : (!(!inRB (tI (W a) * tI (W 0)))) = true := by simp only [tI_in ha, tI_in inR_0, Int.mul_zero]; rw [inRB_of inR_0]; rfl
  exact calls_of_run mo (ring_run0 a b c) (ps_cons ⟨⟨_, rfl⟩, ⟨_, rfl⟩⟩ (ps_cons ⟨⟨_, rfl⟩, ⟨_, rfl⟩⟩ (ps_cons ⟨⟨_, rfl⟩, ⟨_, rfl⟩⟩ (ps_cons ⟨⟨_, rfl⟩, ⟨_, rfl⟩⟩ (ps_cons ⟨⟨_, rfl⟩, ⟨_, rfl⟩⟩ (ps_cons ⟨⟨_, rfl⟩, ⟨_, rfl⟩⟩ (ps_cons q1 (ps_cons q2 (ps_cons q3 (ps_cons ⟨⟨_, rfl⟩, ⟨_, rfl⟩⟩ (ps_cons ⟨⟨_, rfl⟩, ⟨_, rfl⟩⟩ (ps_cons ⟨⟨_, rfl⟩, ⟨_, rfl⟩⟩ (ps_cons ⟨⟨_, rfl⟩, ⟨_, rfl⟩⟩ (ps_cons ⟨⟨_, rfl⟩, ⟨_, rfl⟩⟩ (ps_cons ⟨⟨_, rfl⟩, ⟨_, rfl⟩⟩ (ps_cons ⟨⟨_, rfl⟩, ⟨_, rfl⟩⟩ (ps_cons ⟨⟨_, rfl⟩, ⟨_, rfl⟩⟩ (ps_cons ⟨by decide, by decide⟩ (ps_cons ⟨⟨_, rfl⟩, ⟨_, rfl⟩⟩ (ps_cons ⟨by decide, by decide⟩ (ps_cons ⟨⟨_, rfl⟩, ⟨_, rfl⟩⟩ (ps_cons ⟨_, rfl⟩ (ps_cons ⟨⟨_, rfl⟩, ⟨_, rfl⟩⟩ (ps_cons q4 (ps_cons q5 (ps_cons q6 (ps_cons q7 (ps_cons q8 (ps_cons q9 (ps_cons q10 (ps_cons q11 (ps_cons trivial ps_nil)))))))))))))))))))))))))))))))) (by kernel_rfl)
theorem over_run0 (n m a b : Int) : runF P EL 1 4 [.int .i64 n, .int .i64 m, W a, W b] (.b false :: (.b false :: (.b false :: (.b false :: (.b false :: (.b true :: (.b false :: (.b true :: (.b false :: (.b false :: (.b false :: (.lit :: (.lit :: (.b true :: [])))))))))))))) =
  some (.bool true,
    [ofP [.int .i64 n],
     ofP [.int .i64 m],
     P2 [W n, W m],
     ofP [.int .i64 n],
     ofP [.int .i64 m],
     P2 [W n, W m],
     ofP [.int .i64 n],
     ofP [.int .i64 m],
     P2 [W n, W m],
     (!inRB (tI (W n) * tI (W m))) = false,
     (!inRB (tI (W n) + tI (W m))) = false,
     (!inRB (tI (W n) - tI (W m))) = false,
     ofP [.int .i64 n],
     ofP [.int .i64 m],
     P2 [W n, W m],
     P1 [W (tI (W n) - tI (W m))],
     (cmp3 (tI (W n)) (tI (W m)) != cmp3 (tI (W (tI (W n) - tI (W m)))) 0) = false,
     P1 [W (tI (W n) * tI (W m))],
     ofP [.int .i64 n],
     P1 [W n],
     ofP [.int .i64 m],
     P1 [W m],
     (cmp3 (tI (W (tI (W n) * tI (W m)))) 0 != IntKind.i64.wrap ((cmp3 (tI (W n)) 0) * (cmp3 (tI (W m)) 0))) = false,
     P1 [W (tI (W n) + tI (W m))],
     (i64B (tI (W (tI (W n) + tI (W m))))) = true,
     ((if i64B (tI (W (tI (W n) + tI (W m)))) then tI (W (tI (W n) + tI (W m))) else 0) != IntKind.i64.wrap (n + m)) = false,
     P2 [W a, W b],
     P2 [W a, W b],
     (!(!inRB (tI (W a) + tI (W b)))) = true,
     P2 [W (tI (W a) + tI (W b)), W a],
     P1 [W b],
     (cmp3 (tI (W (tI (W a) + tI (W b)))) (tI (W a)) != cmp3 (tI (W b)) 0) = false,
     P2 [W (tI (W a) + tI (W b)), W b],
     P1 [W a],
     (cmp3 (tI (W (tI (W a) + tI (W b)))) (tI (W b)) != cmp3 (tI (W a)) 0) = false,
     (!inRB (tI (W a) + tI (W b))) = false,
     (!inRB (tI (W a) - tI (W b))) = true,
     wakesP []]) := by kernel_rfl

theorem over_run1 (n m a b : Int) : runF P EL 1 4 [.int .i64 n, .int .i64 m, W a, W b] (.b false :: (.b false :: (.b false :: (.b false :: (.b false :: (.b false :: (.lit :: (.b true :: (.b false :: (.b false :: (.b false :: (.lit :: (.lit :: (.b true :: [])))))))))))))) =
  some (.bool true,
    [ofP [.int .i64 n],
     ofP [.int .i64 m],
     P2 [W n, W m],
     ofP [.int .i64 n],
     ofP [.int .i64 m],
     P2 [W n, W m],
     ofP [.int .i64 n],
     ofP [.int .i64 m],
     P2 [W n, W m],
     (!inRB (tI (W n) * tI (W m))) = false,
     (!inRB (tI (W n) + tI (W m))) = false,
     (!inRB (tI (W n) - tI (W m))) = false,
     ofP [.int .i64 n],
     ofP [.int .i64 m],
     P2 [W n, W m],
     P1 [W (tI (W n) - tI (W m))],
     (cmp3 (tI (W n)) (tI (W m)) != cmp3 (tI (W (tI (W n) - tI (W m)))) 0) = false,
     P1 [W (tI (W n) * tI (W m))],
     ofP [.int .i64 n],
     P1 [W n],
     ofP [.int .i64 m],
     P1 [W m],
     (cmp3 (tI (W (tI (W n) * tI (W m)))) 0 != IntKind.i64.wrap ((cmp3 (tI (W n)) 0) * (cmp3 (tI (W m)) 0))) = false,
     P1 [W (tI (W n) + tI (W m))],
     (i64B (tI (W (tI (W n) + tI (W m))))) = false,
     P2 [W a, W b],
     P2 [W a, W b],
     (!(!inRB (tI (W a) + tI (W b)))) = true,
     P2 [W (tI (W a) + tI (W b)), W a],
     P1 [W b],
     (cmp3 (tI (W (tI (W a) + tI (W b)))) (tI (W a)) != cmp3 (tI (W b)) 0) = false,
     P2 [W (tI (W a) + tI (W b)), W b],
     P1 [W a],
     (cmp3 (tI (W (tI (W a) + tI (W b)))) (tI (W b)) != cmp3 (tI (W a)) 0) = false,
     (!inRB (tI (W a) + tI (W b))) = false,
     (!inRB (tI (W a) - tI (W b))) = true,
     wakesP []]) := by kernel_rfl

theorem over_run2 (n m a b : Int) : runF P EL 1 4 [.int .i64 n, .int .i64 m, W a, W b] (.b false :: (.b false :: (.b false :: (.b false :: (.b false :: (.b false :: (.lit :: (.b false :: (.lit :: (.lit :: (.b true :: (.b false :: (.b false :: (.b true :: [])))))))))))))) =
  some (.bool true,
    [ofP [.int .i64 n],
     ofP [.int .i64 m],
     P2 [W n, W m],
     ofP [.int .i64 n],
     ofP [.int .i64 m],
     P2 [W n, W m],
     ofP [.int .i64 n],
     ofP [.int .i64 m],
     P2 [W n, W m],
     (!inRB (tI (W n) * tI (W m))) = false,
     (!inRB (tI (W n) + tI (W m))) = false,
     (!inRB (tI (W n) - tI (W m))) = false,
     ofP [.int .i64 n],
     ofP [.int .i64 m],
     P2 [W n, W m],
     P1 [W (tI (W n) - tI (W m))],
     (cmp3 (tI (W n)) (tI (W m)) != cmp3 (tI (W (tI (W n) - tI (W m)))) 0) = false,
     P1 [W (tI (W n) * tI (W m))],
     ofP [.int .i64 n],
     P1 [W n],
     ofP [.int .i64 m],
     P1 [W m],
     (cmp3 (tI (W (tI (W n) * tI (W m)))) 0 != IntKind.i64.wrap ((cmp3 (tI (W n)) 0) * (cmp3 (tI (W m)) 0))) = false,
     P1 [W (tI (W n) + tI (W m))],
     (i64B (tI (W (tI (W n) + tI (W m))))) = false,
     P2 [W a, W b],
     P2 [W a, W b],
     (!(!inRB (tI (W a) + tI (W b)))) = false,
     (!inRB (tI (W a) + tI (W b))) = true,
     P1 [W a],
     P1 [W b],
     (cmp3 (tI (W a)) 0 != cmp3 (tI (W b)) 0) = false,
     P2 [W (tI (W a) + tI (W b)), W a],
     P1 [W b],
     (cmp3 (tI (W (tI (W a) + tI (W b)))) (tI (W a)) == cmp3 (tI (W b)) 0) = false,
     (!inRB (tI (W a) - tI (W b))) = true,
     wakesP []]) := by kernel_rfl

theorem over_run3 (n m a b : Int) : runF P EL 1 4 [.int .i64 n, .int .i64 m, W a, W b] (.b false :: (.b false :: (.b false :: (.b false :: (.b false :: (.b false :: (.lit :: (.b false :: (.lit :: (.lit :: (.b true :: (.b false :: (.b false :: (.b false :: (.b true :: []))))))))))))))) =
  some (.bool true,
    [ofP [.int .i64 n],
     ofP [.int .i64 m],
     P2 [W n, W m],
     ofP [.int .i64 n],
     ofP [.int .i64 m],
     P2 [W n, W m],
     ofP [.int .i64 n],
     ofP [.int .i64 m],
     P2 [W n, W m],
     (!inRB (tI (W n) * tI (W m))) = false,
     (!inRB (tI (W n) + tI (W m))) = false,
     (!inRB (tI (W n) - tI (W m))) = false,
     ofP [.int .i64 n],
     ofP [.int .i64 m],
     P2 [W n, W m],
     P1 [W (tI (W n) - tI (W m))],
     (cmp3 (tI (W n)) (tI (W m)) != cmp3 (tI (W (tI (W n) - tI (W m)))) 0) = false,
     P1 [W (tI (W n) * tI (W m))],
     ofP [.int .i64 n],
     P1 [W n],
     ofP [.int .i64 m],
     P1 [W m],
     (cmp3 (tI (W (tI (W n) * tI (W m)))) 0 != IntKind.i64.wrap ((cmp3 (tI (W n)) 0) * (cmp3 (tI (W m)) 0))) = false,
     P1 [W (tI (W n) + tI (W m))],
     (i64B (tI (W (tI (W n) + tI (W m))))) = false,
     P2 [W a, W b],
     P2 [W a, W b],
     (!(!inRB (tI (W a) + tI (W b)))) = false,
     (!inRB (tI (W a) + tI (W b))) = true,
     P1 [W a],
     P1 [W b],
     (cmp3 (tI (W a)) 0 != cmp3 (tI (W b)) 0) = false,
     P2 [W (tI (W a) + tI (W b)), W a],
     P1 [W b],
     (cmp3 (tI (W (tI (W a) + tI (W b)))) (tI (W a)) == cmp3 (tI (W b)) 0) = false,
     (!inRB (tI (W a) - tI (W b))) = false,
     P1 [W (tI (W a) - tI (W b))],
     P2 [W a, W b],
     (cmp3 (tI (W (tI (W a) - tI (W b)))) 0 == cmp3 (tI (W a)) (tI (W b))) = true,
     wakesP []]) := by kernel_rfl

theorem over_run4 (n m a b : Int) : runF P EL 1 4 [.int .i64 n, .int .i64 m, W a, W b] (.b false :: (.b false :: (.b false :: (.b false :: (.b false :: (.b false :: (.lit :: (.b true :: (.b false :: (.b false :: (.b false :: (.lit :: (.lit :: (.b false :: (.b true :: []))))))))))))))) =
  some (.bool true,
    [ofP [.int .i64 n],
     ofP [.int .i64 m],
     P2 [W n, W m],
     ofP [.int .i64 n],
     ofP [.int .i64 m],
     P2 [W n, W m],
     ofP [.int .i64 n],
     ofP [.int .i64 m],
     P2 [W n, W m],
     (!inRB (tI (W n) * tI (W m))) = false,
     (!inRB (tI (W n) + tI (W m))) = false,
     (!inRB (tI (W n) - tI (W m))) = false,
     ofP [.int .i64 n],
     ofP [.int .i64 m],
     P2 [W n, W m],
     P1 [W (tI (W n) - tI (W m))],
     (cmp3 (tI (W n)) (tI (W m)) != cmp3 (tI (W (tI (W n) - tI (W m)))) 0) = false,
     P1 [W (tI (W n) * tI (W m))],
     ofP [.int .i64 n],
     P1 [W n],
     ofP [.int .i64 m],
     P1 [W m],
     (cmp3 (tI (W (tI (W n) * tI (W m)))) 0 != IntKind.i64.wrap ((cmp3 (tI (W n)) 0) * (cmp3 (tI (W m)) 0))) = false,
     P1 [W (tI (W n) + tI (W m))],
     (i64B (tI (W (tI (W n) + tI (W m))))) = false,
     P2 [W a, W b],
     P2 [W a, W b],
     (!(!inRB (tI (W a) + tI (W b)))) = true,
     P2 [W (tI (W a) + tI (W b)), W a],
     P1 [W b],
     (cmp3 (tI (W (tI (W a) + tI (W b)))) (tI (W a)) != cmp3 (tI (W b)) 0) = false,
     P2 [W (tI (W a) + tI (W b)), W b],
     P1 [W a],
     (cmp3 (tI (W (tI (W a) + tI (W b)))) (tI (W b)) != cmp3 (tI (W a)) 0) = false,
     (!inRB (tI (W a) + tI (W b))) = false,
     (!inRB (tI (W a) - tI (W b))) = false,
     P1 [W (tI (W a) - tI (W b))],
     P2 [W a, W b],
     (cmp3 (tI (W (tI (W a) - tI (W b)))) 0 == cmp3 (tI (W a)) (tI (W b))) = true,
     wakesP []]) := by kernel_rfl

theorem over_run5 (n m a b : Int) : runF P EL 1 4 [.int .i64 n, .int .i64 m, W a, W b] (.b false :: (.b false :: (.b false :: (.b false :: (.b false :: (.b true :: (.b false :: (.b false :: (.lit :: (.lit :: (.b true :: (.b false :: (.b false :: (.b true :: [])))))))))))))) =
  some (.bool true,
    [ofP [.int .i64 n],
     ofP [.int .i64 m],
     P2 [W n, W m],
     ofP [.int .i64 n],
     ofP [.int .i64 m],
     P2 [W n, W m],
     ofP [.int .i64 n],
     ofP [.int .i64 m],
     P2 [W n, W m],
     (!inRB (tI (W n) * tI (W m))) = false,
     (!inRB (tI (W n) + tI (W m))) = false,
     (!inRB (tI (W n) - tI (W m))) = false,
     ofP [.int .i64 n],
     ofP [.int .i64 m],
     P2 [W n, W m],
     P1 [W (tI (W n) - tI (W m))],
     (cmp3 (tI (W n)) (tI (W m)) != cmp3 (tI (W (tI (W n) - tI (W m)))) 0) = false,
     P1 [W (tI (W n) * tI (W m))],
     ofP [.int .i64 n],
     P1 [W n],
     ofP [.int .i64 m],
     P1 [W m],
     (cmp3 (tI (W (tI (W n) * tI (W m)))) 0 != IntKind.i64.wrap ((cmp3 (tI (W n)) 0) * (cmp3 (tI (W m)) 0))) = false,
     P1 [W (tI (W n) + tI (W m))],
     (i64B (tI (W (tI (W n) + tI (W m))))) = true,
     ((if i64B (tI (W (tI (W n) + tI (W m)))) then tI (W (tI (W n) + tI (W m))) else 0) != IntKind.i64.wrap (n + m)) = false,
     P2 [W a, W b],
     P2 [W a, W b],
     (!(!inRB (tI (W a) + tI (W b)))) = false,
     (!inRB (tI (W a) + tI (W b))) = true,
     P1 [W a],
     P1 [W b],
     (cmp3 (tI (W a)) 0 != cmp3 (tI (W b)) 0) = false,
     P2 [W (tI (W a) + tI (W b)), W a],
     P1 [W b],
     (cmp3 (tI (W (tI (W a) + tI (W b)))) (tI (W a)) == cmp3 (tI (W b)) 0) = false,
     (!inRB (tI (W a) - tI (W b))) = true,
     wakesP []]) := by kernel_rfl

theorem over_run6 (n m a b : Int) : runF P EL 1 4 [.int .i64 n, .int .i64 m, W a, W b] (.b false :: (.b false :: (.b false :: (.b false :: (.b false :: (.b true :: (.b false :: (.b false :: (.lit :: (.lit :: (.b true :: (.b false :: (.b false :: (.b false :: (.b true :: []))))))))))))))) =
  some (.bool true,
    [ofP [.int .i64 n],
     ofP [.int .i64 m],
     P2 [W n, W m],
     ofP [.int .i64 n],
     ofP [.int .i64 m],
     P2 [W n, W m],
     ofP [.int .i64 n],
     ofP [.int .i64 m],
     P2 [W n, W m],
     (!inRB (tI (W n) * tI (W m))) = false,
     (!inRB (tI (W n) + tI (W m))) = false,
     (!inRB (tI (W n) - tI (W m))) = false,
     ofP [.int .i64 n],
     ofP [.int .i64 m],
     P2 [W n, W m],
     P1 [W (tI (W n) - tI (W m))],
     (cmp3 (tI (W n)) (tI (W m)) != cmp3 (tI (W (tI (W n) - tI (W m)))) 0) = false,
     P1 [W (tI (W n) * tI (W m))],
     ofP [.int .i64 n],
     P1 [W n],
     ofP [.int .i64 m],
     P1 [W m],
     (cmp3 (tI (W (tI (W n) * tI (W m)))) 0 != IntKind.i64.wrap ((cmp3 (tI (W n)) 0) * (cmp3 (tI (W m)) 0))) = false,
     P1 [W (tI (W n) + tI (W m))],
     (i64B (tI (W (tI (W n) + tI (W m))))) = true,
     ((if i64B (tI (W (tI (W n) + tI (W m)))) then tI (W (tI (W n) + tI (W m))) else 0) != IntKind.i64.wrap (n + m)) = false,
     P2 [W a, W b],
     P2 [W a, W b],
     (!(!inRB (tI (W a) + tI (W b)))) = false,
     (!inRB (tI (W a) + tI (W b))) = true,
     P1 [W a],
     P1 [W b],
     (cmp3 (tI (W a)) 0 != cmp3 (tI (W b)) 0) = false,
     P2 [W (tI (W a) + tI (W b)), W a],
     P1 [W b],
     (cmp3 (tI (W (tI (W a) + tI (W b)))) (tI (W a)) == cmp3 (tI (W b)) 0) = false,
     (!inRB (tI (W a) - tI (W b))) = false,
     P1 [W (tI (W a) - tI (W b))],
     P2 [W a, W b],
     (cmp3 (tI (W (tI (W a) - tI (W b)))) 0 == cmp3 (tI (W a)) (tI (W b))) = true,
     wakesP []]) := by kernel_rfl

theorem over_run7 (n m a b : Int) : runF P EL 1 4 [.int .i64 n, .int .i64 m, W a, W b] (.b false :: (.b false :: (.b false :: (.b false :: (.b false :: (.b true :: (.b false :: (.b true :: (.b false :: (.b false :: (.b false :: (.lit :: (.lit :: (.b false :: (.b true :: []))))))))))))))) =
  some (.bool true,
    [ofP [.int .i64 n],
     ofP [.int .i64 m],
     P2 [W n, W m],
     ofP [.int .i64 n],
     ofP [.int .i64 m],
     P2 [W n, W m],
     ofP [.int .i64 n],
     ofP [.int .i64 m],
     P2 [W n, W m],
     (!inRB (tI (W n) * tI (W m))) = false,
     (!inRB (tI (W n) + tI (W m))) = false,
     (!inRB (tI (W n) - tI (W m))) = false,
     ofP [.int .i64 n],
     ofP [.int .i64 m],
     P2 [W n, W m],
     P1 [W (tI (W n) - tI (W m))],
     (cmp3 (tI (W n)) (tI (W m)) != cmp3 (tI (W (tI (W n) - tI (W m)))) 0) = false,
     P1 [W (tI (W n) * tI (W m))],
     ofP [.int .i64 n],
     P1 [W n],
     ofP [.int .i64 m],
     P1 [W m],
     (cmp3 (tI (W (tI (W n) * tI (W m)))) 0 != IntKind.i64.wrap ((cmp3 (tI (W n)) 0) * (cmp3 (tI (W m)) 0))) = false,
     P1 [W (tI (W n) + tI (W m))],
     (i64B (tI (W (tI (W n) + tI (W m))))) = true,
     ((if i64B (tI (W (tI (W n) + tI (W m)))) then tI (W (tI (W n) + tI (W m))) else 0) != IntKind.i64.wrap (n + m)) = false,
     P2 [W a, W b],
     P2 [W a, W b],
     (!(!inRB (tI (W a) + tI (W b)))) = true,
     P2 [W (tI (W a) + tI (W b)), W a],
     P1 [W b],
     (cmp3 (tI (W (tI (W a) + tI (W b)))) (tI (W a)) != cmp3 (tI (W b)) 0) = false,
     P2 [W (tI (W a) + tI (W b)), W b],
     P1 [W a],
     (cmp3 (tI (W (tI (W a) + tI (W b)))) (tI (W b)) != cmp3 (tI (W a)) 0) = false,
     (!inRB (tI (W a) + tI (W b))) = false,
     (!inRB (tI (W a) - tI (W b))) = false,
     P1 [W (tI (W a) - tI (W b))],
     P2 [W a, W b],
     (cmp3 (tI (W (tI (W a) - tI (W b)))) 0 == cmp3 (tI (W a)) (tI (W b))) = true,
     wakesP []]) := by kernel_rfl

theorem over_calls (n m a b : Int) (hn : I64 n) (hm : I64 m) (ha : InR a) (hb : InR b) : ∀ w, Calls P 4 #[.int .i64 n, .int .i64 m, W a, W b] w fun e w' => e = .returned (.bool true) ∧ Below w.heap.size w w' := by
  have q1 : (!inRB (tI (W n) * tI (W m))) = false := by simp only [tI_in (inR64 hn), tI_in (inR64 hm)]; rw [inRB_of (mul64_in hn hm)]; rfl
  have q2 : (!inRB (tI (W n) + tI (W m))) = false := by simp only [tI_in (inR64 hn), tI_in (inR64 hm)]; rw [inRB_of (add64_in hn hm)]; rfl
  have q3 : (!inRB (tI (W n) - tI (W m))) = false := by simp only [tI_in (inR64 hn), tI_in (inR64 hm)]; rw [inRB_of (sub64_in hn hm)]; rfl
  have q4 : (cmp3 (tI (W n)) (tI (W m)) != cmp3 (tI (W (tI (W n) - tI (W m)))) 0) = false := by simp only [tI_in (inR64 hn), tI_in (inR64 hm)]; rw [tI_in (sub64_in hn hm), cmp3_sub]; exact bne_self_eq_false _
  have q5 : (cmp3 (tI (W (tI (W n) * tI (W m)))) 0 != IntKind.i64.wrap ((cmp3 (tI (W n)) 0) * (cmp3 (tI (W m)) 0))) = false := by simp only [tI_in (inR64 hn), tI_in (inR64 hm)]; rw [tI_in (mul64_in hn hm), ← cmp3_mul, wrap_small (cmp3_r _ _)]; exact bne_self_eq_false _
  cases q6 : (i64B (tI (W (tI (W n) + tI (W m))))) with
  | true =>
    have q7 : ((if i64B (tI (W (tI (W n) + tI (W m)))) then tI (W (tI (W n) + tI (W m))) else 0) != IntKind.i64.wrap (n + m)) = false := int_same hn hm ‹_›
    cases q8 : (!(!inRB (tI (W a) + tI (W b)))) with
    | true =>
      have q9 : (cmp3 (tI (W (tI (W a) + tI (W b)))) (tI (W a)) != cmp3 (tI (W b)) 0) = false := sum_a ha hb ‹(!(!inRB (tI (W a) + tI (W b)))) = true›
      have q10 : (cmp3 (tI (W (tI (W a) + tI (W b)))) (tI (W b)) != cmp3 (tI (W a)) 0) = false := sum_b ha hb ‹(!(!inRB (tI (W a) + tI (W b)))) = true›
      have q11 : (!inRB (tI (W a) + tI (W b))) = false := nn_false ‹(!(!inRB (tI (W a) + tI (W b)))) = true›
      cases q12 : (!inRB (tI (W a) - tI (W b))) with
      | true =>
        exact calls_of_run mo (over_run0 n m a b) (ps_cons hn (ps_cons hm (ps_cons ⟨⟨_, rfl⟩, ⟨_, rfl⟩⟩ (ps_cons hn (ps_cons hm (ps_cons ⟨⟨_, rfl⟩, ⟨_, rfl⟩⟩ (ps_cons hn (ps_cons hm (ps_cons ⟨⟨_, rfl⟩, ⟨_, rfl⟩⟩ (ps_cons q1 (ps_cons q2 (ps_cons q3 (ps_cons hn (ps_cons hm (ps_cons ⟨⟨_, rfl⟩, ⟨_, rfl⟩⟩ (ps_cons ⟨_, rfl⟩ (ps_cons q4 (ps_cons ⟨_, rfl⟩ (ps_cons hn (ps_cons ⟨_, rfl⟩ (ps_cons hm (ps_cons ⟨_, rfl⟩ (ps_cons q5 (ps_cons ⟨_, rfl⟩ (ps_cons q6 (ps_cons q7 (ps_cons ⟨⟨_, rfl⟩, ⟨_, rfl⟩⟩ (ps_cons ⟨⟨_, rfl⟩, ⟨_, rfl⟩⟩ (ps_cons q8 (ps_cons ⟨⟨_, rfl⟩, ⟨_, rfl⟩⟩ (ps_cons ⟨_, rfl⟩ (ps_cons q9 (ps_cons ⟨⟨_, rfl⟩, ⟨_, rfl⟩⟩ (ps_cons ⟨_, rfl⟩ (ps_cons q10 (ps_cons q11 (ps_cons q12 (ps_cons trivial ps_nil)))))))))))))))))))))))))))))))))))))) (by kernel_rfl)
      | false =>
        have q13 : (cmp3 (tI (W (tI (W a) - tI (W b)))) 0 == cmp3 (tI (W a)) (tI (W b))) = true := dif_s ha hb ‹_›
        exact calls_of_run mo (over_run7 n m a b) (ps_cons hn (ps_cons hm (ps_cons ⟨⟨_, rfl⟩, ⟨_, rfl⟩⟩ (ps_cons hn (ps_cons hm (ps_cons ⟨⟨_, rfl⟩, ⟨_, rfl⟩⟩ (ps_cons hn (ps_cons hm (ps_cons ⟨⟨_, rfl⟩, ⟨_, rfl⟩⟩ (ps_cons q1 (ps_cons q2 (ps_cons q3 (ps_cons hn (ps_cons hm (ps_cons ⟨⟨_, rfl⟩, ⟨_, rfl⟩⟩ (ps_cons ⟨_, rfl⟩ (ps_cons q4 (ps_cons ⟨_, rfl⟩ (ps_cons hn (ps_cons ⟨_, rfl⟩ (ps_cons hm (ps_cons ⟨_, rfl⟩ (ps_cons q5 (ps_cons ⟨_, rfl⟩ (ps_cons q6 (ps_cons q7 (ps_cons ⟨⟨_, rfl⟩, ⟨_, rfl⟩⟩ (ps_cons ⟨⟨_, rfl⟩, ⟨_, rfl⟩⟩ (ps_cons q8 (ps_cons ⟨⟨_, rfl⟩, ⟨_, rfl⟩⟩ (ps_cons ⟨_, rfl⟩ (ps_cons q9 (ps_cons ⟨⟨_, rfl⟩, ⟨_, rfl⟩⟩ (ps_cons ⟨_, rfl⟩ (ps_cons q10 (ps_cons q11 (ps_cons q12 (ps_cons ⟨_, rfl⟩ (ps_cons ⟨⟨_, rfl⟩, ⟨_, rfl⟩⟩ (ps_cons q13 (ps_cons trivial ps_nil))))))))))))))))))))))))))))))))))))))))) (by kernel_rfl)
    | false =>
      have q14 : (!inRB (tI (W a) + tI (W b))) = true := nn_true ‹(!(!inRB (tI (W a) + tI (W b)))) = false›
      have q15 : (cmp3 (tI (W a)) 0 != cmp3 (tI (W b)) 0) = false := sum_s ha hb ‹(!(!inRB (tI (W a) + tI (W b)))) = false›
      have q16 : (cmp3 (tI (W (tI (W a) + tI (W b)))) (tI (W a)) == cmp3 (tI (W b)) 0) = false := sum_n ha hb ‹(!(!inRB (tI (W a) + tI (W b)))) = false›
      cases q17 : (!inRB (tI (W a) - tI (W b))) with
      | true =>
        exact calls_of_run mo (over_run5 n m a b) (ps_cons hn (ps_cons hm (ps_cons ⟨⟨_, rfl⟩, ⟨_, rfl⟩⟩ (ps_cons hn (ps_cons hm (ps_cons ⟨⟨_, rfl⟩, ⟨_, rfl⟩⟩ (ps_cons hn (ps_cons hm (ps_cons ⟨⟨_, rfl⟩, ⟨_, rfl⟩⟩ (ps_cons q1 (ps_cons q2 (ps_cons q3 (ps_cons hn (ps_cons hm (ps_cons ⟨⟨_, rfl⟩, ⟨_, rfl⟩⟩ (ps_cons ⟨_, rfl⟩ (ps_cons q4 (ps_cons ⟨_, rfl⟩ (ps_cons hn (ps_cons ⟨_, rfl⟩ (ps_cons hm (ps_cons ⟨_, rfl⟩ (ps_cons q5 (ps_cons ⟨_, rfl⟩ (ps_cons q6 (ps_cons q7 (ps_cons ⟨⟨_, rfl⟩, ⟨_, rfl⟩⟩ (ps_cons ⟨⟨_, rfl⟩, ⟨_, rfl⟩⟩ (ps_cons q8 (ps_cons q14 (ps_cons ⟨_, rfl⟩ (ps_cons ⟨_, rfl⟩ (ps_cons q15 (ps_cons ⟨⟨_, rfl⟩, ⟨_, rfl⟩⟩ (ps_cons ⟨_, rfl⟩ (ps_cons q16 (ps_cons q17 (ps_cons trivial ps_nil)))))))))))))))))))))))))))))))))))))) (by kernel_rfl)
      | false =>
        have q18 : (cmp3 (tI (W (tI (W a) - tI (W b)))) 0 == cmp3 (tI (W a)) (tI (W b))) = true := dif_s ha hb ‹_›
        exact calls_of_run mo (over_run6 n m a b) (ps_cons hn (ps_cons hm (ps_cons ⟨⟨_, rfl⟩, ⟨_, rfl⟩⟩ (ps_cons hn (ps_cons hm (ps_cons ⟨⟨_, rfl⟩, ⟨_, rfl⟩⟩ (ps_cons hn (ps_cons hm (ps_cons ⟨⟨_, rfl⟩, ⟨_, rfl⟩⟩ (ps_cons q1 (ps_cons q2 (ps_cons q3 (ps_cons hn (ps_cons hm (ps_cons ⟨⟨_, rfl⟩, ⟨_, rfl⟩⟩ (ps_cons ⟨_, rfl⟩ (ps_cons q4 (ps_cons ⟨_, rfl⟩ (ps_cons hn (ps_cons ⟨_, rfl⟩ (ps_cons hm (ps_cons ⟨_, rfl⟩ (ps_cons q5 (ps_cons ⟨_, rfl⟩ (ps_cons q6 (ps_cons q7 (ps_cons ⟨⟨_, rfl⟩, ⟨_, rfl⟩⟩ (ps_cons ⟨⟨_, rfl⟩, ⟨_, rfl⟩⟩ (ps_cons q8 (ps_cons q14 (ps_cons ⟨_, rfl⟩ (ps_cons ⟨_, rfl⟩ (ps_cons q15 (ps_cons ⟨⟨_, rfl⟩, ⟨_, rfl⟩⟩ (ps_cons ⟨_, rfl⟩ (ps_cons q16 (ps_cons q17 (ps_cons ⟨_, rfl⟩ (ps_cons ⟨⟨_, rfl⟩, ⟨_, rfl⟩⟩ (ps_cons q18 (ps_cons trivial ps_nil))))))))))))))))))))))))))))))))))))))))) (by kernel_rfl)
  | false =>
    cases q19 : (!(!inRB (tI (W a) + tI (W b)))) with
    | true =>
      have q20 : (cmp3 (tI (W (tI (W a) + tI (W b)))) (tI (W a)) != cmp3 (tI (W b)) 0) = false := sum_a ha hb ‹(!(!inRB (tI (W a) + tI (W b)))) = true›
      have q21 : (cmp3 (tI (W (tI (W a) + tI (W b)))) (tI (W b)) != cmp3 (tI (W a)) 0) = false := sum_b ha hb ‹(!(!inRB (tI (W a) + tI (W b)))) = true›
      have q22 : (!inRB (tI (W a) + tI (W b))) = false := nn_false ‹(!(!inRB (tI (W a) + tI (W b)))) = true›
      cases q23 : (!inRB (tI (W a) - tI (W b))) with
      | true =>
        exact calls_of_run mo (over_run1 n m a b) (ps_cons hn (ps_cons hm (ps_cons ⟨⟨_, rfl⟩, ⟨_, rfl⟩⟩ (ps_cons hn (ps_cons hm (ps_cons ⟨⟨_, rfl⟩, ⟨_, rfl⟩⟩ (ps_cons hn (ps_cons hm (ps_cons ⟨⟨_, rfl⟩, ⟨_, rfl⟩⟩ (ps_cons q1 (ps_cons q2 (ps_cons q3 (ps_cons hn (ps_cons hm (ps_cons ⟨⟨_, rfl⟩, ⟨_, rfl⟩⟩ (ps_cons ⟨_, rfl⟩ (ps_cons q4 (ps_cons ⟨_, rfl⟩ (ps_cons hn (ps_cons ⟨_, rfl⟩ (ps_cons hm (ps_cons ⟨_, rfl⟩ (ps_cons q5 (ps_cons ⟨_, rfl⟩ (ps_cons q6 (ps_cons ⟨⟨_, rfl⟩, ⟨_, rfl⟩⟩ (ps_cons ⟨⟨_, rfl⟩, ⟨_, rfl⟩⟩ (ps_cons q19 (ps_cons ⟨⟨_, rfl⟩, ⟨_, rfl⟩⟩ (ps_cons ⟨_, rfl⟩ (ps_cons q20 (ps_cons ⟨⟨_, rfl⟩, ⟨_, rfl⟩⟩ (ps_cons ⟨_, rfl⟩ (ps_cons q21 (ps_cons q22 (ps_cons q23 (ps_cons trivial ps_nil))))))))))))))))))))))))))))))))))))) (by kernel_rfl)
      | false =>
        have q24 : (cmp3 (tI (W (tI (W a) - tI (W b)))) 0 == cmp3 (tI (W a)) (tI (W b))) = true := dif_s ha hb ‹_›
        exact calls_of_run mo (over_run4 n m a b) (ps_cons hn (ps_cons hm (ps_cons ⟨⟨_, rfl⟩, ⟨_, rfl⟩⟩ (ps_cons hn (ps_cons hm (ps_cons ⟨⟨_, rfl⟩, ⟨_, rfl⟩⟩ (ps_cons hn (ps_cons hm (ps_cons ⟨⟨_, rfl⟩, ⟨_, rfl⟩⟩ (ps_cons q1 (ps_cons q2 (ps_cons q3 (ps_cons hn (ps_cons hm (ps_cons ⟨⟨_, rfl⟩, ⟨_, rfl⟩⟩ (ps_cons ⟨_, rfl⟩ (ps_cons q4 (ps_cons ⟨_, rfl⟩ (ps_cons hn (ps_cons ⟨_, rfl⟩ (ps_cons hm (ps_cons ⟨_, rfl⟩ (ps_cons q5 (ps_cons ⟨_, rfl⟩ (ps_cons q6 (ps_cons ⟨⟨_, rfl⟩, ⟨_, rfl⟩⟩ (ps_cons ⟨⟨_, rfl⟩, ⟨_, rfl⟩⟩ (ps_cons q19 (ps_cons ⟨⟨_, rfl⟩, ⟨_, rfl⟩⟩ (ps_cons ⟨_, rfl⟩ (ps_cons q20 (ps_cons ⟨⟨_, rfl⟩, ⟨_, rfl⟩⟩ (ps_cons ⟨_, rfl⟩ (ps_cons q21 (ps_cons q22 (ps_cons q23 (ps_cons ⟨_, rfl⟩ (ps_cons ⟨⟨_, rfl⟩, ⟨_, rfl⟩⟩ (ps_cons q24 (ps_cons trivial ps_nil)))))))))))))))))))))))))))))))))))))))) (by kernel_rfl)
    | false =>
      have q25 : (!inRB (tI (W a) + tI (W b))) = true := nn_true ‹(!(!inRB (tI (W a) + tI (W b)))) = false›
      have q26 : (cmp3 (tI (W a)) 0 != cmp3 (tI (W b)) 0) = false := sum_s ha hb ‹(!(!inRB (tI (W a) + tI (W b)))) = false›
      have q27 : (cmp3 (tI (W (tI (W a) + tI (W b)))) (tI (W a)) == cmp3 (tI (W b)) 0) = false := sum_n ha hb ‹(!(!inRB (tI (W a) + tI (W b)))) = false›
      cases q28 : (!inRB (tI (W a) - tI (W b))) with
      | true =>
        exact calls_of_run mo (over_run2 n m a b) (ps_cons hn (ps_cons hm (ps_cons ⟨⟨_, rfl⟩, ⟨_, rfl⟩⟩ (ps_cons hn (ps_cons hm (ps_cons ⟨⟨_, rfl⟩, ⟨_, rfl⟩⟩ (ps_cons hn (ps_cons hm (ps_cons ⟨⟨_, rfl⟩, ⟨_, rfl⟩⟩ (ps_cons q1 (ps_cons q2 (ps_cons q3 (ps_cons hn (ps_cons hm (ps_cons ⟨⟨_, rfl⟩, ⟨_, rfl⟩⟩ (ps_cons ⟨_, rfl⟩ (ps_cons q4 (ps_cons ⟨_, rfl⟩ (ps_cons hn (ps_cons ⟨_, rfl⟩ (ps_cons hm (ps_cons ⟨_, rfl⟩ (ps_cons q5 (ps_cons ⟨_, rfl⟩ (ps_cons q6 (ps_cons ⟨⟨_, rfl⟩, ⟨_, rfl⟩⟩ (ps_cons ⟨⟨_, rfl⟩, ⟨_, rfl⟩⟩ (ps_cons q19 (ps_cons q25 (ps_cons ⟨_, rfl⟩ (ps_cons ⟨_, rfl⟩ (ps_cons q26 (ps_cons ⟨⟨_, rfl⟩, ⟨_, rfl⟩⟩ (ps_cons ⟨_, rfl⟩ (ps_cons q27 (ps_cons q28 (ps_cons trivial ps_nil))))))))))))))))))))))))))))))))))))) (by kernel_rfl)
      | false =>
        have q29 : (cmp3 (tI (W (tI (W a) - tI (W b)))) 0 == cmp3 (tI (W a)) (tI (W b))) = true := dif_s ha hb ‹_›
        exact calls_of_run mo (over_run3 n m a b) (ps_cons hn (ps_cons hm (ps_cons ⟨⟨_, rfl⟩, ⟨_, rfl⟩⟩ (ps_cons hn (ps_cons hm (ps_cons ⟨⟨_, rfl⟩, ⟨_, rfl⟩⟩ (ps_cons hn (ps_cons hm (ps_cons ⟨⟨_, rfl⟩, ⟨_, rfl⟩⟩ (ps_cons q1 (ps_cons q2 (ps_cons q3 (ps_cons hn (ps_cons hm (ps_cons ⟨⟨_, rfl⟩, ⟨_, rfl⟩⟩ (ps_cons ⟨_, rfl⟩ (ps_cons q4 (ps_cons ⟨_, rfl⟩ (ps_cons hn (ps_cons ⟨_, rfl⟩ (ps_cons hm (ps_cons ⟨_, rfl⟩ (ps_cons q5 (ps_cons ⟨_, rfl⟩ (ps_cons q6 (ps_cons ⟨⟨_, rfl⟩, ⟨_, rfl⟩⟩ (ps_cons ⟨⟨_, rfl⟩, ⟨_, rfl⟩⟩ (ps_cons q19 (ps_cons q25 (ps_cons ⟨_, rfl⟩ (ps_cons ⟨_, rfl⟩ (ps_cons q26 (ps_cons ⟨⟨_, rfl⟩, ⟨_, rfl⟩⟩ (ps_cons ⟨_, rfl⟩ (ps_cons q27 (ps_cons q28 (ps_cons ⟨_, rfl⟩ (ps_cons ⟨⟨_, rfl⟩, ⟨_, rfl⟩⟩ (ps_cons q29 (ps_cons trivial ps_nil)))))))))))))))))))))))))))))))))))))))) (by kernel_rfl)
theorem order_run0 (a b c : Int) : runF P EL 1 5 [W a, W b, W c] (.b false :: (.b false :: (.b false :: (.b false :: (.b true :: (.b true :: (.b false :: (.b true :: (.lit :: (.lit :: (.b true :: []))))))))))) =
  some (.bool true,
    [P2 [W a, W b],
     (decide (cmp3 (tI (W a)) (tI (W b)) < -1)) = false,
     (decide (cmp3 (tI (W a)) (tI (W b)) > 1)) = false,
     ((cmp3 (tI (W a)) (tI (W b)) == 0) != (weq a b)) = false,
     P2 [W b, W a],
     (cmp3 (tI (W b)) (tI (W a)) != IntKind.i64.wrap (0 - (cmp3 (tI (W a)) (tI (W b))))) = false,
     P2 [W a, W b],
     (decide (cmp3 (tI (W a)) (tI (W b)) ≤ 0)) = true,
     P2 [W b, W c],
     (decide (cmp3 (tI (W b)) (tI (W c)) ≤ 0)) = true,
     P2 [W a, W c],
     (decide (cmp3 (tI (W a)) (tI (W c)) > 0)) = false,
     P1 [W a],
     P1 [W b],
     (!inRB (-tI (W a))) = true,
     P1 [W a],
     ofP [.int .i64 0],
     P2 [W a, W 0],
     (cmp3 (tI (W a)) 0 == cmp3 (tI (W a)) (tI (W 0))) = true,
     wakesP []]) := by kernel_rfl

theorem order_run1 (a b c : Int) : runF P EL 1 5 [W a, W b, W c] (.b false :: (.b false :: (.b false :: (.b false :: (.b false :: (.lit :: (.lit :: (.b true :: (.lit :: (.lit :: (.b true :: []))))))))))) =
  some (.bool true,
    [P2 [W a, W b],
     (decide (cmp3 (tI (W a)) (tI (W b)) < -1)) = false,
     (decide (cmp3 (tI (W a)) (tI (W b)) > 1)) = false,
     ((cmp3 (tI (W a)) (tI (W b)) == 0) != (weq a b)) = false,
     P2 [W b, W a],
     (cmp3 (tI (W b)) (tI (W a)) != IntKind.i64.wrap (0 - (cmp3 (tI (W a)) (tI (W b))))) = false,
     P2 [W a, W b],
     (decide (cmp3 (tI (W a)) (tI (W b)) ≤ 0)) = false,
     P1 [W a],
     P1 [W b],
     (!inRB (-tI (W a))) = true,
     P1 [W a],
     ofP [.int .i64 0],
     P2 [W a, W 0],
     (cmp3 (tI (W a)) 0 == cmp3 (tI (W a)) (tI (W 0))) = true,
     wakesP []]) := by kernel_rfl

theorem order_run2 (a b c : Int) : runF P EL 1 5 [W a, W b, W c] (.b false :: (.b false :: (.b false :: (.b false :: (.b false :: (.lit :: (.lit :: (.b false :: (.b true :: (.lit :: (.b true :: []))))))))))) =
  some (.bool true,
    [P2 [W a, W b],
     (decide (cmp3 (tI (W a)) (tI (W b)) < -1)) = false,
     (decide (cmp3 (tI (W a)) (tI (W b)) > 1)) = false,
     ((cmp3 (tI (W a)) (tI (W b)) == 0) != (weq a b)) = false,
     P2 [W b, W a],
     (cmp3 (tI (W b)) (tI (W a)) != IntKind.i64.wrap (0 - (cmp3 (tI (W a)) (tI (W b))))) = false,
     P2 [W a, W b],
     (decide (cmp3 (tI (W a)) (tI (W b)) ≤ 0)) = false,
     P1 [W a],
     P1 [W b],
     (!inRB (-tI (W a))) = false,
     (!inRB (-tI (W b))) = true,
     P1 [W a],
     ofP [.int .i64 0],
     P2 [W a, W 0],
     (cmp3 (tI (W a)) 0 == cmp3 (tI (W a)) (tI (W 0))) = true,
     wakesP []]) := by kernel_rfl

theorem order_run3 (a b c : Int) : runF P EL 1 5 [W a, W b, W c] (.b false :: (.b false :: (.b false :: (.b false :: (.b false :: (.lit :: (.lit :: (.b false :: (.b false :: (.b true :: (.b true :: []))))))))))) =
  some (.bool true,
    [P2 [W a, W b],
     (decide (cmp3 (tI (W a)) (tI (W b)) < -1)) = false,
     (decide (cmp3 (tI (W a)) (tI (W b)) > 1)) = false,
     ((cmp3 (tI (W a)) (tI (W b)) == 0) != (weq a b)) = false,
     P2 [W b, W a],
     (cmp3 (tI (W b)) (tI (W a)) != IntKind.i64.wrap (0 - (cmp3 (tI (W a)) (tI (W b))))) = false,
     P2 [W a, W b],
     (decide (cmp3 (tI (W a)) (tI (W b)) ≤ 0)) = false,
     P1 [W a],
     P1 [W b],
     (!inRB (-tI (W a))) = false,
     (!inRB (-tI (W b))) = false,
     P2 [W (-tI (W a)), W (-tI (W b))],
     (cmp3 (tI (W (-tI (W a)))) (tI (W (-tI (W b)))) == IntKind.i64.wrap (0 - (cmp3 (tI (W a)) (tI (W b))))) = true,
     P1 [W a],
     ofP [.int .i64 0],
     P2 [W a, W 0],
     (cmp3 (tI (W a)) 0 == cmp3 (tI (W a)) (tI (W 0))) = true,
     wakesP []]) := by kernel_rfl

theorem order_run4 (a b c : Int) : runF P EL 1 5 [W a, W b, W c] (.b false :: (.b false :: (.b false :: (.b false :: (.b true :: (.b false :: (.lit :: (.b true :: (.lit :: (.lit :: (.b true :: []))))))))))) =
  some (.bool true,
    [P2 [W a, W b],
     (decide (cmp3 (tI (W a)) (tI (W b)) < -1)) = false,
     (decide (cmp3 (tI (W a)) (tI (W b)) > 1)) = false,
     ((cmp3 (tI (W a)) (tI (W b)) == 0) != (weq a b)) = false,
     P2 [W b, W a],
     (cmp3 (tI (W b)) (tI (W a)) != IntKind.i64.wrap (0 - (cmp3 (tI (W a)) (tI (W b))))) = false,
     P2 [W a, W b],
     (decide (cmp3 (tI (W a)) (tI (W b)) ≤ 0)) = true,
     P2 [W b, W c],
     (decide (cmp3 (tI (W b)) (tI (W c)) ≤ 0)) = false,
     P1 [W a],
     P1 [W b],
     (!inRB (-tI (W a))) = true,
     P1 [W a],
     ofP [.int .i64 0],
     P2 [W a, W 0],
     (cmp3 (tI (W a)) 0 == cmp3 (tI (W a)) (tI (W 0))) = true,
     wakesP []]) := by kernel_rfl

theorem order_run5 (a b c : Int) : runF P EL 1 5 [W a, W b, W c] (.b false :: (.b false :: (.b false :: (.b false :: (.b true :: (.b false :: (.lit :: (.b false :: (.b true :: (.lit :: (.b true :: []))))))))))) =
  some (.bool true,
    [P2 [W a, W b],
     (decide (cmp3 (tI (W a)) (tI (W b)) < -1)) = false,
     (decide (cmp3 (tI (W a)) (tI (W b)) > 1)) = false,
     ((cmp3 (tI (W a)) (tI (W b)) == 0) != (weq a b)) = false,
     P2 [W b, W a],
     (cmp3 (tI (W b)) (tI (W a)) != IntKind.i64.wrap (0 - (cmp3 (tI (W a)) (tI (W b))))) = false,
     P2 [W a, W b],
     (decide (cmp3 (tI (W a)) (tI (W b)) ≤ 0)) = true,
     P2 [W b, W c],
     (decide (cmp3 (tI (W b)) (tI (W c)) ≤ 0)) = false,
     P1 [W a],
     P1 [W b],
     (!inRB (-tI (W a))) = false,
     (!inRB (-tI (W b))) = true,
     P1 [W a],
     ofP [.int .i64 0],
     P2 [W a, W 0],
     (cmp3 (tI (W a)) 0 == cmp3 (tI (W a)) (tI (W 0))) = true,
     wakesP []]) := by kernel_rfl

theorem order_run6 (a b c : Int) : runF P EL 1 5 [W a, W b, W c] (.b false :: (.b false :: (.b false :: (.b false :: (.b true :: (.b false :: (.lit :: (.b false :: (.b false :: (.b true :: (.b true :: []))))))))))) =
  some (.bool true,
    [P2 [W a, W b],
     (decide (cmp3 (tI (W a)) (tI (W b)) < -1)) = false,
     (decide (cmp3 (tI (W a)) (tI (W b)) > 1)) = false,
     ((cmp3 (tI (W a)) (tI (W b)) == 0) != (weq a b)) = false,
     P2 [W b, W a],
     (cmp3 (tI (W b)) (tI (W a)) != IntKind.i64.wrap (0 - (cmp3 (tI (W a)) (tI (W b))))) = false,
     P2 [W a, W b],
     (decide (cmp3 (tI (W a)) (tI (W b)) ≤ 0)) = true,
     P2 [W b, W c],
     (decide (cmp3 (tI (W b)) (tI (W c)) ≤ 0)) = false,
     P1 [W a],
     P1 [W b],
     (!inRB (-tI (W a))) = false,
     (!inRB (-tI (W b))) = false,
     P2 [W (-tI (W a)), W (-tI (W b))],
     (cmp3 (tI (W (-tI (W a)))) (tI (W (-tI (W b)))) == IntKind.i64.wrap (0 - (cmp3 (tI (W a)) (tI (W b))))) = true,
     P1 [W a],
     ofP [.int .i64 0],
     P2 [W a, W 0],
     (cmp3 (tI (W a)) 0 == cmp3 (tI (W a)) (tI (W 0))) = true,
     wakesP []]) := by kernel_rfl

theorem order_run7 (a b c : Int) : runF P EL 1 5 [W a, W b, W c] (.b false :: (.b false :: (.b false :: (.b false :: (.b true :: (.b true :: (.b false :: (.b false :: (.b true :: (.lit :: (.b true :: []))))))))))) =
  some (.bool true,
    [P2 [W a, W b],
     (decide (cmp3 (tI (W a)) (tI (W b)) < -1)) = false,
     (decide (cmp3 (tI (W a)) (tI (W b)) > 1)) = false,
     ((cmp3 (tI (W a)) (tI (W b)) == 0) != (weq a b)) = false,
     P2 [W b, W a],
     (cmp3 (tI (W b)) (tI (W a)) != IntKind.i64.wrap (0 - (cmp3 (tI (W a)) (tI (W b))))) = false,
     P2 [W a, W b],
     (decide (cmp3 (tI (W a)) (tI (W b)) ≤ 0)) = true,
     P2 [W b, W c],
     (decide (cmp3 (tI (W b)) (tI (W c)) ≤ 0)) = true,
     P2 [W a, W c],
     (decide (cmp3 (tI (W a)) (tI (W c)) > 0)) = false,
     P1 [W a],
     P1 [W b],
     (!inRB (-tI (W a))) = false,
     (!inRB (-tI (W b))) = true,
     P1 [W a],
     ofP [.int .i64 0],
     P2 [W a, W 0],
     (cmp3 (tI (W a)) 0 == cmp3 (tI (W a)) (tI (W 0))) = true,
     wakesP []]) := by kernel_rfl

theorem order_run8 (a b c : Int) : runF P EL 1 5 [W a, W b, W c] (.b false :: (.b false :: (.b false :: (.b false :: (.b true :: (.b true :: (.b false :: (.b false :: (.b false :: (.b true :: (.b true :: []))))))))))) =
  some (.bool true,
    [P2 [W a, W b],
     (decide (cmp3 (tI (W a)) (tI (W b)) < -1)) = false,
     (decide (cmp3 (tI (W a)) (tI (W b)) > 1)) = false,
     ((cmp3 (tI (W a)) (tI (W b)) == 0) != (weq a b)) = false,
     P2 [W b, W a],
     (cmp3 (tI (W b)) (tI (W a)) != IntKind.i64.wrap (0 - (cmp3 (tI (W a)) (tI (W b))))) = false,
     P2 [W a, W b],
     (decide (cmp3 (tI (W a)) (tI (W b)) ≤ 0)) = true,
     P2 [W b, W c],
     (decide (cmp3 (tI (W b)) (tI (W c)) ≤ 0)) = true,
     P2 [W a, W c],
     (decide (cmp3 (tI (W a)) (tI (W c)) > 0)) = false,
     P1 [W a],
     P1 [W b],
     (!inRB (-tI (W a))) = false,
     (!inRB (-tI (W b))) = false,
     P2 [W (-tI (W a)), W (-tI (W b))],
     (cmp3 (tI (W (-tI (W a)))) (tI (W (-tI (W b)))) == IntKind.i64.wrap (0 - (cmp3 (tI (W a)) (tI (W b))))) = true,
     P1 [W a],
     ofP [.int .i64 0],
     P2 [W a, W 0],
     (cmp3 (tI (W a)) 0 == cmp3 (tI (W a)) (tI (W 0))) = true,
     wakesP []]) := by kernel_rfl

theorem order_calls (a b c : Int) (ha : InR a) (hb : InR b) : ∀ w, Calls P 5 #[W a, W b, W c] w fun e w' => e = .returned (.bool true) ∧ Below w.heap.size w w' := by
  have q1 : (decide (cmp3 (tI (W a)) (tI (W b)) < -1)) = false := by have := cmp3_r (tI (W a)) (tI (W b)); exact decide_eq_false (by omega)
  have q2 : (decide (cmp3 (tI (W a)) (tI (W b)) > 1)) = false := by have := cmp3_r (tI (W a)) (tI (W b)); exact decide_eq_false (by omega)
  have q3 : ((cmp3 (tI (W a)) (tI (W b)) == 0) != (weq a b)) = false := ord_eq ha hb
  have q4 : (cmp3 (tI (W b)) (tI (W a)) != IntKind.i64.wrap (0 - (cmp3 (tI (W a)) (tI (W b))))) = false := ord_n _ _
  cases q5 : (decide (cmp3 (tI (W a)) (tI (W b)) ≤ 0)) with
  | true =>
    cases q6 : (decide (cmp3 (tI (W b)) (tI (W c)) ≤ 0)) with
    | true =>
      have q7 : (decide (cmp3 (tI (W a)) (tI (W c)) > 0)) = false := ord_t ‹decide (cmp3 (tI (W a)) (tI (W b)) ≤ 0) = true› ‹_›
      cases q8 : (!inRB (-tI (W a))) with
      | true =>
        have q9 : (cmp3 (tI (W a)) 0 == cmp3 (tI (W a)) (tI (W 0))) = true := by rw [tI_in inR_0]; exact beq_self_eq_true _
        exact calls_of_run mo (order_run0 a b c) (ps_cons ⟨⟨_, rfl⟩, ⟨_, rfl⟩⟩ (ps_cons q1 (ps_cons q2 (ps_cons q3 (ps_cons ⟨⟨_, rfl⟩, ⟨_, rfl⟩⟩ (ps_cons q4 (ps_cons ⟨⟨_, rfl⟩, ⟨_, rfl⟩⟩ (ps_cons q5 (ps_cons ⟨⟨_, rfl⟩, ⟨_, rfl⟩⟩ (ps_cons q6 (ps_cons ⟨⟨_, rfl⟩, ⟨_, rfl⟩⟩ (ps_cons q7 (ps_cons ⟨_, rfl⟩ (ps_cons ⟨_, rfl⟩ (ps_cons q8 (ps_cons ⟨_, rfl⟩ (ps_cons ⟨by decide, by decide⟩ (ps_cons ⟨⟨_, rfl⟩, ⟨_, rfl⟩⟩ (ps_cons q9 (ps_cons trivial ps_nil)))))))))))))))))))) (by kernel_rfl)
      | false =>
        cases q10 : (!inRB (-tI (W b))) with
        | true =>
          have q11 : (cmp3 (tI (W a)) 0 == cmp3 (tI (W a)) (tI (W 0))) = true := by rw [tI_in inR_0]; exact beq_self_eq_true _
          exact calls_of_run mo (order_run7 a b c) (ps_cons ⟨⟨_, rfl⟩, ⟨_, rfl⟩⟩ (ps_cons q1 (ps_cons q2 (ps_cons q3 (ps_cons ⟨⟨_, rfl⟩, ⟨_, rfl⟩⟩ (ps_cons q4 (ps_cons ⟨⟨_, rfl⟩, ⟨_, rfl⟩⟩ (ps_cons q5 (ps_cons ⟨⟨_, rfl⟩, ⟨_, rfl⟩⟩ (ps_cons q6 (ps_cons ⟨⟨_, rfl⟩, ⟨_, rfl⟩⟩ (ps_cons q7 (ps_cons ⟨_, rfl⟩ (ps_cons ⟨_, rfl⟩ (ps_cons q8 (ps_cons q10 (ps_cons ⟨_, rfl⟩ (ps_cons ⟨by decide, by decide⟩ (ps_cons ⟨⟨_, rfl⟩, ⟨_, rfl⟩⟩ (ps_cons q11 (ps_cons trivial ps_nil))))))))))))))))))))) (by kernel_rfl)
        | false =>
          have q12 : (cmp3 (tI (W (-tI (W a)))) (tI (W (-tI (W b)))) == IntKind.i64.wrap (0 - (cmp3 (tI (W a)) (tI (W b))))) = true := ord_neg ha hb ‹_› ‹_›
          have q13 : (cmp3 (tI (W a)) 0 == cmp3 (tI (W a)) (tI (W 0))) = true := by rw [tI_in inR_0]; exact beq_self_eq_true _
          exact calls_of_run mo (order_run8 a b c) (ps_cons ⟨⟨_, rfl⟩, ⟨_, rfl⟩⟩ (ps_cons q1 (ps_cons q2 (ps_cons q3 (ps_cons ⟨⟨_, rfl⟩, ⟨_, rfl⟩⟩ (ps_cons q4 (ps_cons ⟨⟨_, rfl⟩, ⟨_, rfl⟩⟩ (ps_cons q5 (ps_cons ⟨⟨_, rfl⟩, ⟨_, rfl⟩⟩ (ps_cons q6 (ps_cons ⟨⟨_, rfl⟩, ⟨_, rfl⟩⟩ (ps_cons q7 (ps_cons ⟨_, rfl⟩ (ps_cons ⟨_, rfl⟩ (ps_cons q8 (ps_cons q10 (ps_cons ⟨⟨_, rfl⟩, ⟨_, rfl⟩⟩ (ps_cons q12 (ps_cons ⟨_, rfl⟩ (ps_cons ⟨by decide, by decide⟩ (ps_cons ⟨⟨_, rfl⟩, ⟨_, rfl⟩⟩ (ps_cons q13 (ps_cons trivial ps_nil))))))))))))))))))))))) (by kernel_rfl)
    | false =>
      cases q14 : (!inRB (-tI (W a))) with
      | true =>
        have q15 : (cmp3 (tI (W a)) 0 == cmp3 (tI (W a)) (tI (W 0))) = true := by rw [tI_in inR_0]; exact beq_self_eq_true _
        exact calls_of_run mo (order_run4 a b c) (ps_cons ⟨⟨_, rfl⟩, ⟨_, rfl⟩⟩ (ps_cons q1 (ps_cons q2 (ps_cons q3 (ps_cons ⟨⟨_, rfl⟩, ⟨_, rfl⟩⟩ (ps_cons q4 (ps_cons ⟨⟨_, rfl⟩, ⟨_, rfl⟩⟩ (ps_cons q5 (ps_cons ⟨⟨_, rfl⟩, ⟨_, rfl⟩⟩ (ps_cons q6 (ps_cons ⟨_, rfl⟩ (ps_cons ⟨_, rfl⟩ (ps_cons q14 (ps_cons ⟨_, rfl⟩ (ps_cons ⟨by decide, by decide⟩ (ps_cons ⟨⟨_, rfl⟩, ⟨_, rfl⟩⟩ (ps_cons q15 (ps_cons trivial ps_nil)))))))))))))))))) (by kernel_rfl)
      | false =>
        cases q16 : (!inRB (-tI (W b))) with
        | true =>
          have q17 : (cmp3 (tI (W a)) 0 == cmp3 (tI (W a)) (tI (W 0))) = true := by rw [tI_in inR_0]; exact beq_self_eq_true _
          exact calls_of_run mo (order_run5 a b c) (ps_cons ⟨⟨_, rfl⟩, ⟨_, rfl⟩⟩ (ps_cons q1 (ps_cons q2 (ps_cons q3 (ps_cons ⟨⟨_, rfl⟩, ⟨_, rfl⟩⟩ (ps_cons q4 (ps_cons ⟨⟨_, rfl⟩, ⟨_, rfl⟩⟩ (ps_cons q5 (ps_cons ⟨⟨_, rfl⟩, ⟨_, rfl⟩⟩ (ps_cons q6 (ps_cons ⟨_, rfl⟩ (ps_cons ⟨_, rfl⟩ (ps_cons q14 (ps_cons q16 (ps_cons ⟨_, rfl⟩ (ps_cons ⟨by decide, by decide⟩ (ps_cons ⟨⟨_, rfl⟩, ⟨_, rfl⟩⟩ (ps_cons q17 (ps_cons trivial ps_nil))))))))))))))))))) (by kernel_rfl)
        | false =>
          have q18 : (cmp3 (tI (W (-tI (W a)))) (tI (W (-tI (W b)))) == IntKind.i64.wrap (0 - (cmp3 (tI (W a)) (tI (W b))))) = true := ord_neg ha hb ‹_› ‹_›
          have q19 : (cmp3 (tI (W a)) 0 == cmp3 (tI (W a)) (tI (W 0))) = true := by rw [tI_in inR_0]; exact beq_self_eq_true _
          exact calls_of_run mo (order_run6 a b c) (ps_cons ⟨⟨_, rfl⟩, ⟨_, rfl⟩⟩ (ps_cons q1 (ps_cons q2 (ps_cons q3 (ps_cons ⟨⟨_, rfl⟩, ⟨_, rfl⟩⟩ (ps_cons q4 (ps_cons ⟨⟨_, rfl⟩, ⟨_, rfl⟩⟩ (ps_cons q5 (ps_cons ⟨⟨_, rfl⟩, ⟨_, rfl⟩⟩ (ps_cons q6 (ps_cons ⟨_, rfl⟩ (ps_cons ⟨_, rfl⟩ (ps_cons q14 (ps_cons q16 (ps_cons ⟨⟨_, rfl⟩, ⟨_, rfl⟩⟩ (ps_cons q18 (ps_cons ⟨_, rfl⟩ (ps_cons ⟨by decide, by decide⟩ (ps_cons ⟨⟨_, rfl⟩, ⟨_, rfl⟩⟩ (ps_cons q19 (ps_cons trivial ps_nil))))))))))))))))))))) (by kernel_rfl)
  | false =>
    cases q20 : (!inRB (-tI (W a))) with
    | true =>
      have q21 : (cmp3 (tI (W a)) 0 == cmp3 (tI (W a)) (tI (W 0))) = true := by rw [tI_in inR_0]; exact beq_self_eq_true _
      exact calls_of_run mo (order_run1 a b c) (ps_cons ⟨⟨_, rfl⟩, ⟨_, rfl⟩⟩ (ps_cons q1 (ps_cons q2 (ps_cons q3 (ps_cons ⟨⟨_, rfl⟩, ⟨_, rfl⟩⟩ (ps_cons q4 (ps_cons ⟨⟨_, rfl⟩, ⟨_, rfl⟩⟩ (ps_cons q5 (ps_cons ⟨_, rfl⟩ (ps_cons ⟨_, rfl⟩ (ps_cons q20 (ps_cons ⟨_, rfl⟩ (ps_cons ⟨by decide, by decide⟩ (ps_cons ⟨⟨_, rfl⟩, ⟨_, rfl⟩⟩ (ps_cons q21 (ps_cons trivial ps_nil)))))))))))))))) (by kernel_rfl)
    | false =>
      cases q22 : (!inRB (-tI (W b))) with
      | true =>
        have q23 : (cmp3 (tI (W a)) 0 == cmp3 (tI (W a)) (tI (W 0))) = true := by rw [tI_in inR_0]; exact beq_self_eq_true _
        exact calls_of_run mo (order_run2 a b c) (ps_cons ⟨⟨_, rfl⟩, ⟨_, rfl⟩⟩ (ps_cons q1 (ps_cons q2 (ps_cons q3 (ps_cons ⟨⟨_, rfl⟩, ⟨_, rfl⟩⟩ (ps_cons q4 (ps_cons ⟨⟨_, rfl⟩, ⟨_, rfl⟩⟩ (ps_cons q5 (ps_cons ⟨_, rfl⟩ (ps_cons ⟨_, rfl⟩ (ps_cons q20 (ps_cons q22 (ps_cons ⟨_, rfl⟩ (ps_cons ⟨by decide, by decide⟩ (ps_cons ⟨⟨_, rfl⟩, ⟨_, rfl⟩⟩ (ps_cons q23 (ps_cons trivial ps_nil))))))))))))))))) (by kernel_rfl)
      | false =>
        have q24 : (cmp3 (tI (W (-tI (W a)))) (tI (W (-tI (W b)))) == IntKind.i64.wrap (0 - (cmp3 (tI (W a)) (tI (W b))))) = true := ord_neg ha hb ‹_› ‹_›
        have q25 : (cmp3 (tI (W a)) 0 == cmp3 (tI (W a)) (tI (W 0))) = true := by rw [tI_in inR_0]; exact beq_self_eq_true _
        exact calls_of_run mo (order_run3 a b c) (ps_cons ⟨⟨_, rfl⟩, ⟨_, rfl⟩⟩ (ps_cons q1 (ps_cons q2 (ps_cons q3 (ps_cons ⟨⟨_, rfl⟩, ⟨_, rfl⟩⟩ (ps_cons q4 (ps_cons ⟨⟨_, rfl⟩, ⟨_, rfl⟩⟩ (ps_cons q5 (ps_cons ⟨_, rfl⟩ (ps_cons ⟨_, rfl⟩ (ps_cons q20 (ps_cons q22 (ps_cons ⟨⟨_, rfl⟩, ⟨_, rfl⟩⟩ (ps_cons q24 (ps_cons ⟨_, rfl⟩ (ps_cons ⟨by decide, by decide⟩ (ps_cons ⟨⟨_, rfl⟩, ⟨_, rfl⟩⟩ (ps_cons q25 (ps_cons trivial ps_nil))))))))))))))))))) (by kernel_rfl)
theorem squares_run0 (a b : Int) : runF P EL 1 6 [W a, W b] (.b true :: (.b false :: (.b true :: (.b true :: (.b true :: (.b true :: (.b false :: (.b true :: [])))))))) =
  some (.bool true,
    [P2 [W a, W a],
     P2 [W b, W b],
     P2 [W a, W b],
     P2 [W a, W b],
     P2 [W (tI (W a) + tI (W b)), W (tI (W a) - tI (W b))],
     P2 [W (tI (W a) * tI (W a)), W (tI (W b) * tI (W b))],
     (!(!inRB (tI (W a) * tI (W a)))) = true,
     P1 [W (tI (W a) * tI (W a))],
     (decide (cmp3 (tI (W (tI (W a) * tI (W a)))) 0 < 0)) = false,
     (!(!inRB (tI (W a) * tI (W a)))) = true,
     (!(!inRB (tI (W b) * tI (W b)))) = true,
     P1 [W a],
     (decide (cmp3 (tI (W a)) 0 ≥ 0)) = true,
     P1 [W b],
     (decide (cmp3 (tI (W b)) 0 ≥ 0)) = true,
     P2 [W (tI (W a) * tI (W a)), W (tI (W b) * tI (W b))],
     P2 [W a, W b],
     (cmp3 (tI (W (tI (W a) * tI (W a)))) (tI (W (tI (W b) * tI (W b)))) != cmp3 (tI (W a)) (tI (W b))) = false,
     (weq (tI (W (tI (W a) + tI (W b))) * tI (W (tI (W a) - tI (W b)))) (tI (W (tI (W a) * tI (W a))) - tI (W (tI (W b) * tI (W b))))) = true,
     wakesP []]) := by kernel_rfl

theorem squares_run1 (a b : Int) : runF P EL 1 6 [W a, W b] (.b false :: (.lit :: (.b true :: (.b true :: (.b true :: (.b true :: (.b false :: (.b true :: [])))))))) =
  some (.bool true,
    [P2 [W a, W a],
     P2 [W b, W b],
     P2 [W a, W b],
     P2 [W a, W b],
     P2 [W (tI (W a) + tI (W b)), W (tI (W a) - tI (W b))],
     P2 [W (tI (W a) * tI (W a)), W (tI (W b) * tI (W b))],
     (!(!inRB (tI (W a) * tI (W a)))) = false,
     (!(!inRB (tI (W a) * tI (W a)))) = true,
     (!(!inRB (tI (W b) * tI (W b)))) = true,
     P1 [W a],
     (decide (cmp3 (tI (W a)) 0 ≥ 0)) = true,
     P1 [W b],
     (decide (cmp3 (tI (W b)) 0 ≥ 0)) = true,
     P2 [W (tI (W a) * tI (W a)), W (tI (W b) * tI (W b))],
     P2 [W a, W b],
     (cmp3 (tI (W (tI (W a) * tI (W a)))) (tI (W (tI (W b) * tI (W b)))) != cmp3 (tI (W a)) (tI (W b))) = false,
     (weq (tI (W (tI (W a) + tI (W b))) * tI (W (tI (W a) - tI (W b)))) (tI (W (tI (W a) * tI (W a))) - tI (W (tI (W b) * tI (W b))))) = true,
     wakesP []]) := by kernel_rfl

theorem squares_run2 (a b : Int) : runF P EL 1 6 [W a, W b] (.b false :: (.lit :: (.b false :: (lits 4 (.b true :: []))))) =
  some (.bool true,
    [P2 [W a, W a],
     P2 [W b, W b],
     P2 [W a, W b],
     P2 [W a, W b],
     P2 [W (tI (W a) + tI (W b)), W (tI (W a) - tI (W b))],
     P2 [W (tI (W a) * tI (W a)), W (tI (W b) * tI (W b))],
     (!(!inRB (tI (W a) * tI (W a)))) = false,
     (!(!inRB (tI (W a) * tI (W a)))) = false,
     (weq (tI (W (tI (W a) + tI (W b))) * tI (W (tI (W a) - tI (W b)))) (tI (W (tI (W a) * tI (W a))) - tI (W (tI (W b) * tI (W b))))) = true,
     wakesP []]) := by kernel_rfl

theorem squares_run3 (a b : Int) : runF P EL 1 6 [W a, W b] (.b false :: (.lit :: (.b true :: (.b false :: (.lit :: (.lit :: (.lit :: (.b true :: [])))))))) =
  some (.bool true,
    [P2 [W a, W a],
     P2 [W b, W b],
     P2 [W a, W b],
     P2 [W a, W b],
     P2 [W (tI (W a) + tI (W b)), W (tI (W a) - tI (W b))],
     P2 [W (tI (W a) * tI (W a)), W (tI (W b) * tI (W b))],
     (!(!inRB (tI (W a) * tI (W a)))) = false,
     (!(!inRB (tI (W a) * tI (W a)))) = true,
     (!(!inRB (tI (W b) * tI (W b)))) = false,
     (weq (tI (W (tI (W a) + tI (W b))) * tI (W (tI (W a) - tI (W b)))) (tI (W (tI (W a) * tI (W a))) - tI (W (tI (W b) * tI (W b))))) = true,
     wakesP []]) := by kernel_rfl

theorem squares_run4 (a b : Int) : runF P EL 1 6 [W a, W b] (.b false :: (.lit :: (.b true :: (.b true :: (.b false :: (.lit :: (.lit :: (.b true :: [])))))))) =
  some (.bool true,
    [P2 [W a, W a],
     P2 [W b, W b],
     P2 [W a, W b],
     P2 [W a, W b],
     P2 [W (tI (W a) + tI (W b)), W (tI (W a) - tI (W b))],
     P2 [W (tI (W a) * tI (W a)), W (tI (W b) * tI (W b))],
     (!(!inRB (tI (W a) * tI (W a)))) = false,
     (!(!inRB (tI (W a) * tI (W a)))) = true,
     (!(!inRB (tI (W b) * tI (W b)))) = true,
     P1 [W a],
     (decide (cmp3 (tI (W a)) 0 ≥ 0)) = false,
     (weq (tI (W (tI (W a) + tI (W b))) * tI (W (tI (W a) - tI (W b)))) (tI (W (tI (W a) * tI (W a))) - tI (W (tI (W b) * tI (W b))))) = true,
     wakesP []]) := by kernel_rfl

theorem squares_run5 (a b : Int) : runF P EL 1 6 [W a, W b] (.b false :: (.lit :: (.b true :: (.b true :: (.b true :: (.b false :: (.lit :: (.b true :: [])))))))) =
  some (.bool true,
    [P2 [W a, W a],
     P2 [W b, W b],
     P2 [W a, W b],
     P2 [W a, W b],
     P2 [W (tI (W a) + tI (W b)), W (tI (W a) - tI (W b))],
     P2 [W (tI (W a) * tI (W a)), W (tI (W b) * tI (W b))],
     (!(!inRB (tI (W a) * tI (W a)))) = false,
     (!(!inRB (tI (W a) * tI (W a)))) = true,
     (!(!inRB (tI (W b) * tI (W b)))) = true,
     P1 [W a],
     (decide (cmp3 (tI (W a)) 0 ≥ 0)) = true,
     P1 [W b],
     (decide (cmp3 (tI (W b)) 0 ≥ 0)) = false,
     (weq (tI (W (tI (W a) + tI (W b))) * tI (W (tI (W a) - tI (W b)))) (tI (W (tI (W a) * tI (W a))) - tI (W (tI (W b) * tI (W b))))) = true,
     wakesP []]) := by kernel_rfl

theorem squares_run6 (a b : Int) : runF P EL 1 6 [W a, W b] (.b true :: (.b false :: (.b false :: (lits 4 (.b true :: []))))) =
  some (.bool true,
    [P2 [W a, W a],
     P2 [W b, W b],
     P2 [W a, W b],
     P2 [W a, W b],
     P2 [W (tI (W a) + tI (W b)), W (tI (W a) - tI (W b))],
     P2 [W (tI (W a) * tI (W a)), W (tI (W b) * tI (W b))],
     (!(!inRB (tI (W a) * tI (W a)))) = true,
     P1 [W (tI (W a) * tI (W a))],
     (decide (cmp3 (tI (W (tI (W a) * tI (W a)))) 0 < 0)) = false,
     (!(!inRB (tI (W a) * tI (W a)))) = false,
     (weq (tI (W (tI (W a) + tI (W b))) * tI (W (tI (W a) - tI (W b)))) (tI (W (tI (W a) * tI (W a))) - tI (W (tI (W b) * tI (W b))))) = true,
     wakesP []]) := by kernel_rfl

theorem squares_run7 (a b : Int) : runF P EL 1 6 [W a, W b] (.b true :: (.b false :: (.b true :: (.b false :: (.lit :: (.lit :: (.lit :: (.b true :: [])))))))) =
  some (.bool true,
    [P2 [W a, W a],
     P2 [W b, W b],
     P2 [W a, W b],
     P2 [W a, W b],
     P2 [W (tI (W a) + tI (W b)), W (tI (W a) - tI (W b))],
     P2 [W (tI (W a) * tI (W a)), W (tI (W b) * tI (W b))],
     (!(!inRB (tI (W a) * tI (W a)))) = true,
     P1 [W (tI (W a) * tI (W a))],
     (decide (cmp3 (tI (W (tI (W a) * tI (W a)))) 0 < 0)) = false,
     (!(!inRB (tI (W a) * tI (W a)))) = true,
     (!(!inRB (tI (W b) * tI (W b)))) = false,
     (weq (tI (W (tI (W a) + tI (W b))) * tI (W (tI (W a) - tI (W b)))) (tI (W (tI (W a) * tI (W a))) - tI (W (tI (W b) * tI (W b))))) = true,
     wakesP []]) := by kernel_rfl

theorem squares_run8 (a b : Int) : runF P EL 1 6 [W a, W b] (.b true :: (.b false :: (.b true :: (.b true :: (.b false :: (.lit :: (.lit :: (.b true :: [])))))))) =
  some (.bool true,
    [P2 [W a, W a],
     P2 [W b, W b],
     P2 [W a, W b],
     P2 [W a, W b],
     P2 [W (tI (W a) + tI (W b)), W (tI (W a) - tI (W b))],
     P2 [W (tI (W a) * tI (W a)), W (tI (W b) * tI (W b))],
     (!(!inRB (tI (W a) * tI (W a)))) = true,
     P1 [W (tI (W a) * tI (W a))],
     (decide (cmp3 (tI (W (tI (W a) * tI (W a)))) 0 < 0)) = false,
     (!(!inRB (tI (W a) * tI (W a)))) = true,
     (!(!inRB (tI (W b) * tI (W b)))) = true,
     P1 [W a],
     (decide (cmp3 (tI (W a)) 0 ≥ 0)) = false,
     (weq (tI (W (tI (W a) + tI (W b))) * tI (W (tI (W a) - tI (W b)))) (tI (W (tI (W a) * tI (W a))) - tI (W (tI (W b) * tI (W b))))) = true,
     wakesP []]) := by kernel_rfl

theorem squares_run9 (a b : Int) : runF P EL 1 6 [W a, W b] (.b true :: (.b false :: (.b true :: (.b true :: (.b true :: (.b false :: (.lit :: (.b true :: [])))))))) =
  some (.bool true,
    [P2 [W a, W a],
     P2 [W b, W b],
     P2 [W a, W b],
     P2 [W a, W b],
     P2 [W (tI (W a) + tI (W b)), W (tI (W a) - tI (W b))],
     P2 [W (tI (W a) * tI (W a)), W (tI (W b) * tI (W b))],
     (!(!inRB (tI (W a) * tI (W a)))) = true,
     P1 [W (tI (W a) * tI (W a))],
     (decide (cmp3 (tI (W (tI (W a) * tI (W a)))) 0 < 0)) = false,
     (!(!inRB (tI (W a) * tI (W a)))) = true,
     (!(!inRB (tI (W b) * tI (W b)))) = true,
     P1 [W a],
     (decide (cmp3 (tI (W a)) 0 ≥ 0)) = true,
     P1 [W b],
     (decide (cmp3 (tI (W b)) 0 ≥ 0)) = false,
     (weq (tI (W (tI (W a) + tI (W b))) * tI (W (tI (W a) - tI (W b)))) (tI (W (tI (W a) * tI (W a))) - tI (W (tI (W b) * tI (W b))))) = true,
     wakesP []]) := by kernel_rfl

theorem squares_calls (a b : Int) (ha : InR a) (hb : InR b) : ∀ w, Calls P 6 #[W a, W b] w fun e w' => e = .returned (.bool true) ∧ Below w.heap.size w w' := by
  cases q1 : (!(!inRB (tI (W a) * tI (W a)))) with
  | true =>
    have q2 : (decide (cmp3 (tI (W (tI (W a) * tI (W a)))) 0 < 0)) = false := sq_pos ‹_›
    cases q3 : (!(!inRB (tI (W a) * tI (W a)))) with
    | true =>
      cases q4 : (!(!inRB (tI (W b) * tI (W b)))) with
      | true =>
        cases q5 : (decide (cmp3 (tI (W a)) 0 ≥ 0)) with
        | true =>
          cases q6 : (decide (cmp3 (tI (W b)) 0 ≥ 0)) with
          | true =>
            have q7 : (cmp3 (tI (W (tI (W a) * tI (W a)))) (tI (W (tI (W b) * tI (W b)))) != cmp3 (tI (W a)) (tI (W b))) = false := sq_mono ha hb ‹(!(!inRB (tI (W a) * tI (W a)))) = true› ‹(!(!inRB (tI (W b) * tI (W b)))) = true› ‹decide (cmp3 (tI (W a)) 0 ≥ 0) = true› ‹decide (cmp3 (tI (W b)) 0 ≥ 0) = true›
            have q8 : (weq (tI (W (tI (W a) + tI (W b))) * tI (W (tI (W a) - tI (W b)))) (tI (W (tI (W a) * tI (W a))) - tI (W (tI (W b) * tI (W b))))) = true := (weq_o (by (repeat first | rw [o_tI] | rw [o_add] | rw [o_mul] | rw [o_sub] | rw [o_neg] | rw [o_one] | rw [o_zero]) <;> grind))
            exact calls_of_run mo (squares_run0 a b) (ps_cons ⟨⟨_, rfl⟩, ⟨_, rfl⟩⟩ (ps_cons ⟨⟨_, rfl⟩, ⟨_, rfl⟩⟩ (ps_cons ⟨⟨_, rfl⟩, ⟨_, rfl⟩⟩ (ps_cons ⟨⟨_, rfl⟩, ⟨_, rfl⟩⟩ (ps_cons ⟨⟨_, rfl⟩, ⟨_, rfl⟩⟩ (ps_cons ⟨⟨_, rfl⟩, ⟨_, rfl⟩⟩ (ps_cons q3 (ps_cons ⟨_, rfl⟩ (ps_cons q2 (ps_cons q3 (ps_cons q4 (ps_cons ⟨_, rfl⟩ (ps_cons q5 (ps_cons ⟨_, rfl⟩ (ps_cons q6 (ps_cons ⟨⟨_, rfl⟩, ⟨_, rfl⟩⟩ (ps_cons ⟨⟨_, rfl⟩, ⟨_, rfl⟩⟩ (ps_cons q7 (ps_cons q8 (ps_cons trivial ps_nil)))))))))))))))))))) (by kernel_rfl)
          | false =>
            have q9 : (weq (tI (W (tI (W a) + tI (W b))) * tI (W (tI (W a) - tI (W b)))) (tI (W (tI (W a) * tI (W a))) - tI (W (tI (W b) * tI (W b))))) = true := (weq_o (by (repeat first | rw [o_tI] | rw [o_add] | rw [o_mul] | rw [o_sub] | rw [o_neg] | rw [o_one] | rw [o_zero]) <;> grind))
            exact calls_of_run mo (squares_run9 a b) (ps_cons ⟨⟨_, rfl⟩, ⟨_, rfl⟩⟩ (ps_cons ⟨⟨_, rfl⟩, ⟨_, rfl⟩⟩ (ps_cons ⟨⟨_, rfl⟩, ⟨_, rfl⟩⟩ (ps_cons ⟨⟨_, rfl⟩, ⟨_, rfl⟩⟩ (ps_cons ⟨⟨_, rfl⟩, ⟨_, rfl⟩⟩ (ps_cons ⟨⟨_, rfl⟩, ⟨_, rfl⟩⟩ (ps_cons q3 (ps_cons ⟨_, rfl⟩ (ps_cons q2 (ps_cons q3 (ps_cons q4 (ps_cons ⟨_, rfl⟩ (ps_cons q5 (ps_cons ⟨_, rfl⟩ (ps_cons q6 (ps_cons q9 (ps_cons trivial ps_nil))))))))))))))))) (by kernel_rfl)
        | false =>
          have q10 : (weq (tI (W (tI (W a) + tI (W b))) * tI (W (tI (W a) - tI (W b)))) (tI (W (tI (W a) * tI (W a))) - tI (W (tI (W b) * tI (W b))))) = true := (weq_o (by (repeat first | rw [o_tI] | rw [o_add] | rw [o_mul] | rw [o_sub] | rw [o_neg] | rw [o_one] | rw [o_zero]) <;> grind))
          exact calls_of_run mo (squares_run8 a b) (ps_cons ⟨⟨_, rfl⟩, ⟨_, rfl⟩⟩ (ps_cons ⟨⟨_, rfl⟩, ⟨_, rfl⟩⟩ (ps_cons ⟨⟨_, rfl⟩, ⟨_, rfl⟩⟩ (ps_cons ⟨⟨_, rfl⟩, ⟨_, rfl⟩⟩ (ps_cons ⟨⟨_, rfl⟩, ⟨_, rfl⟩⟩ (ps_cons ⟨⟨_, rfl⟩, ⟨_, rfl⟩⟩ (ps_cons q3 (ps_cons ⟨_, rfl⟩ (ps_cons q2 (ps_cons q3 (ps_cons q4 (ps_cons ⟨_, rfl⟩ (ps_cons q5 (ps_cons q10 (ps_cons trivial ps_nil))))))))))))))) (by kernel_rfl)
      | false =>
        have q11 : (weq (tI (W (tI (W a) + tI (W b))) * tI (W (tI (W a) - tI (W b)))) (tI (W (tI (W a) * tI (W a))) - tI (W (tI (W b) * tI (W b))))) = true := (weq_o (by (repeat first | rw [o_tI] | rw [o_add] | rw [o_mul] | rw [o_sub] | rw [o_neg] | rw [o_one] | rw [o_zero]) <;> grind))
        exact calls_of_run mo (squares_run7 a b) (ps_cons ⟨⟨_, rfl⟩, ⟨_, rfl⟩⟩ (ps_cons ⟨⟨_, rfl⟩, ⟨_, rfl⟩⟩ (ps_cons ⟨⟨_, rfl⟩, ⟨_, rfl⟩⟩ (ps_cons ⟨⟨_, rfl⟩, ⟨_, rfl⟩⟩ (ps_cons ⟨⟨_, rfl⟩, ⟨_, rfl⟩⟩ (ps_cons ⟨⟨_, rfl⟩, ⟨_, rfl⟩⟩ (ps_cons q3 (ps_cons ⟨_, rfl⟩ (ps_cons q2 (ps_cons q3 (ps_cons q4 (ps_cons q11 (ps_cons trivial ps_nil))))))))))))) (by kernel_rfl)
    | false =>
      have q12 : (weq (tI (W (tI (W a) + tI (W b))) * tI (W (tI (W a) - tI (W b)))) (tI (W (tI (W a) * tI (W a))) - tI (W (tI (W b) * tI (W b))))) = true := (weq_o (by (repeat first | rw [o_tI] | rw [o_add] | rw [o_mul] | rw [o_sub] | rw [o_neg] | rw [o_one] | rw [o_zero]) <;> grind))
      exact calls_of_run mo (squares_run6 a b) (ps_cons ⟨⟨_, rfl⟩, ⟨_, rfl⟩⟩ (ps_cons ⟨⟨_, rfl⟩, ⟨_, rfl⟩⟩ (ps_cons ⟨⟨_, rfl⟩, ⟨_, rfl⟩⟩ (ps_cons ⟨⟨_, rfl⟩, ⟨_, rfl⟩⟩ (ps_cons ⟨⟨_, rfl⟩, ⟨_, rfl⟩⟩ (ps_cons ⟨⟨_, rfl⟩, ⟨_, rfl⟩⟩ (ps_cons q1 (ps_cons ⟨_, rfl⟩ (ps_cons q2 (ps_cons q3 (ps_cons q12 (ps_cons trivial ps_nil)))))))))))) (by kernel_rfl)
  | false =>
    cases q13 : (!(!inRB (tI (W a) * tI (W a)))) with
    | true =>
      cases q14 : (!(!inRB (tI (W b) * tI (W b)))) with
      | true =>
        cases q15 : (decide (cmp3 (tI (W a)) 0 ≥ 0)) with
        | true =>
          cases q16 : (decide (cmp3 (tI (W b)) 0 ≥ 0)) with
          | true =>
            have q17 : (cmp3 (tI (W (tI (W a) * tI (W a)))) (tI (W (tI (W b) * tI (W b)))) != cmp3 (tI (W a)) (tI (W b))) = false := sq_mono ha hb ‹(!(!inRB (tI (W a) * tI (W a)))) = true› ‹(!(!inRB (tI (W b) * tI (W b)))) = true› ‹decide (cmp3 (tI (W a)) 0 ≥ 0) = true› ‹decide (cmp3 (tI (W b)) 0 ≥ 0) = true›
            have q18 : (weq (tI (W (tI (W a) + tI (W b))) * tI (W (tI (W a) - tI (W b)))) (tI (W (tI (W a) * tI (W a))) - tI (W (tI (W b) * tI (W b))))) = true := (weq_o (by (repeat first | rw [o_tI] | rw [o_add] | rw [o_mul] | rw [o_sub] | rw [o_neg] | rw [o_one] | rw [o_zero]) <;> grind))
            exact calls_of_run mo (squares_run1 a b) (ps_cons ⟨⟨_, rfl⟩, ⟨_, rfl⟩⟩ (ps_cons ⟨⟨_, rfl⟩, ⟨_, rfl⟩⟩ (ps_cons ⟨⟨_, rfl⟩, ⟨_, rfl⟩⟩ (ps_cons ⟨⟨_, rfl⟩, ⟨_, rfl⟩⟩ (ps_cons ⟨⟨_, rfl⟩, ⟨_, rfl⟩⟩ (ps_cons ⟨⟨_, rfl⟩, ⟨_, rfl⟩⟩ (ps_cons q1 (ps_cons q13 (ps_cons q14 (ps_cons ⟨_, rfl⟩ (ps_cons q15 (ps_cons ⟨_, rfl⟩ (ps_cons q16 (ps_cons ⟨⟨_, rfl⟩, ⟨_, rfl⟩⟩ (ps_cons ⟨⟨_, rfl⟩, ⟨_, rfl⟩⟩ (ps_cons q17 (ps_cons q18 (ps_cons trivial ps_nil)))))))))))))))))) (by kernel_rfl)
          | false =>
            have q19 : (weq (tI (W (tI (W a) + tI (W b))) * tI (W (tI (W a) - tI (W b)))) (tI (W (tI (W a) * tI (W a))) - tI (W (tI (W b) * tI (W b))))) = true := (weq_o (by (repeat first | rw [o_tI] | rw [o_add] | rw [o_mul] | rw [o_sub] | rw [o_neg] | rw [o_one] | rw [o_zero]) <;> grind))
            exact calls_of_run mo (squares_run5 a b) (ps_cons ⟨⟨_, rfl⟩, ⟨_, rfl⟩⟩ (ps_cons ⟨⟨_, rfl⟩, ⟨_, rfl⟩⟩ (ps_cons ⟨⟨_, rfl⟩, ⟨_, rfl⟩⟩ (ps_cons ⟨⟨_, rfl⟩, ⟨_, rfl⟩⟩ (ps_cons ⟨⟨_, rfl⟩, ⟨_, rfl⟩⟩ (ps_cons ⟨⟨_, rfl⟩, ⟨_, rfl⟩⟩ (ps_cons q1 (ps_cons q13 (ps_cons q14 (ps_cons ⟨_, rfl⟩ (ps_cons q15 (ps_cons ⟨_, rfl⟩ (ps_cons q16 (ps_cons q19 (ps_cons trivial ps_nil))))))))))))))) (by kernel_rfl)
        | false =>
          have q20 : (weq (tI (W (tI (W a) + tI (W b))) * tI (W (tI (W a) - tI (W b)))) (tI (W (tI (W a) * tI (W a))) - tI (W (tI (W b) * tI (W b))))) = true := (weq_o (by (repeat first | rw [o_tI] | rw [o_add] | rw [o_mul] | rw [o_sub] | rw [o_neg] | rw [o_one] | rw [o_zero]) <;> grind))
          exact calls_of_run mo (squares_run4 a b) (ps_cons ⟨⟨_, rfl⟩, ⟨_, rfl⟩⟩ (ps_cons ⟨⟨_, rfl⟩, ⟨_, rfl⟩⟩ (ps_cons ⟨⟨_, rfl⟩, ⟨_, rfl⟩⟩ (ps_cons ⟨⟨_, rfl⟩, ⟨_, rfl⟩⟩ (ps_cons ⟨⟨_, rfl⟩, ⟨_, rfl⟩⟩ (ps_cons ⟨⟨_, rfl⟩, ⟨_, rfl⟩⟩ (ps_cons q1 (ps_cons q13 (ps_cons q14 (ps_cons ⟨_, rfl⟩ (ps_cons q15 (ps_cons q20 (ps_cons trivial ps_nil))))))))))))) (by kernel_rfl)
      | false =>
        have q21 : (weq (tI (W (tI (W a) + tI (W b))) * tI (W (tI (W a) - tI (W b)))) (tI (W (tI (W a) * tI (W a))) - tI (W (tI (W b) * tI (W b))))) = true := (weq_o (by (repeat first | rw [o_tI] | rw [o_add] | rw [o_mul] | rw [o_sub] | rw [o_neg] | rw [o_one] | rw [o_zero]) <;> grind))
        exact calls_of_run mo (squares_run3 a b) (ps_cons ⟨⟨_, rfl⟩, ⟨_, rfl⟩⟩ (ps_cons ⟨⟨_, rfl⟩, ⟨_, rfl⟩⟩ (ps_cons ⟨⟨_, rfl⟩, ⟨_, rfl⟩⟩ (ps_cons ⟨⟨_, rfl⟩, ⟨_, rfl⟩⟩ (ps_cons ⟨⟨_, rfl⟩, ⟨_, rfl⟩⟩ (ps_cons ⟨⟨_, rfl⟩, ⟨_, rfl⟩⟩ (ps_cons q1 (ps_cons q13 (ps_cons q14 (ps_cons q21 (ps_cons trivial ps_nil))))))))))) (by kernel_rfl)
    | false =>
      have q22 : (weq (tI (W (tI (W a) + tI (W b))) * tI (W (tI (W a) - tI (W b)))) (tI (W (tI (W a) * tI (W a))) - tI (W (tI (W b) * tI (W b))))) = true := (weq_o (by (repeat first | rw [o_tI] | rw [o_add] | rw [o_mul] | rw [o_sub] | rw [o_neg] | rw [o_one] | rw [o_zero]) <;> grind))
      exact calls_of_run mo (squares_run2 a b) (ps_cons ⟨⟨_, rfl⟩, ⟨_, rfl⟩⟩ (ps_cons ⟨⟨_, rfl⟩, ⟨_, rfl⟩⟩ (ps_cons ⟨⟨_, rfl⟩, ⟨_, rfl⟩⟩ (ps_cons ⟨⟨_, rfl⟩, ⟨_, rfl⟩⟩ (ps_cons ⟨⟨_, rfl⟩, ⟨_, rfl⟩⟩ (ps_cons ⟨⟨_, rfl⟩, ⟨_, rfl⟩⟩ (ps_cons q13 (ps_cons q13 (ps_cons q22 (ps_cons trivial ps_nil)))))))))) (by kernel_rfl)
end Go.Wd
