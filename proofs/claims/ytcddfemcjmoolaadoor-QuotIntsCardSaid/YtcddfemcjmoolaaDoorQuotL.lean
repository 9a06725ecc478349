/-
  The laws of chapter 03 (quot): floors, nearest ones, turns, ints. Printed by lawq1.py.
-/
import Derived.Test.YtcddfemcjmoolaaDoorQuotJ
import Derived.Test.YtcddfemcjmoolaaDoorRefD
namespace Go.Qt
open Go Go.RowKit Go.Sx Go.Nm Go.Wd Go.Proofs

theorem of_run (n : Int) : runF P ⟨Rd.refC, [], 10, []⟩ 1 27 [.int .i64 n] [] = some (W n, [ofP [.int .i64 n]]) := by kernel_rfl
theorem of_gives' (args : List Value) (h : ofP args) : Gives P 27 args.toArray (ofV args) := by
  have h0 := h
  unfold ofP at h
  split at h
  · exact gives_of_run mo (of_run _) (ps_cons h0 ps_nil) rfl
  · exact h.elim
noncomputable def lof : Ctr P := ⟨27, ofP, ofV, of_gives'⟩
noncomputable def LC : List (Ctr P) := lof :: (Rd.refC ++ quotC)
noncomputable def EL0 : Env P := ⟨⟨LC, []⟩, [], 10, []⟩
theorem wakes_run : runF P EL0 1 22 [] [] =
  some (.bool true,
    [ofP [.int .i64 (-7)],
     ofP [.int .i64 2],
     P2 [W (-7), W 2],
     ofP [.int .i64 (-7)],
     ofP [.int .i64 2],
     P2 [W (-7), W 2],
     ofP [.int .i64 (-7)],
     ofP [.int .i64 2],
     P2 [W (-7), W 2],
     ofP [.int .i64 7],
     ofP [.int .i64 (-2)],
     P2 [W 7, W (-2)],
     ofP [.int .i64 1],
     ofP [.int .i64 0],
     P2 [W 1, W 0],
     ofP [.int .i64 3],
     shP [W 3, .int .i64 100],
     shPr [W (lv (tI (W 3)) 100), .int .i64 99],
     intsP [.int .i64 1099511627776, .int .i64 1099511627776, .int .i64 (-3377699720527872)],
     ofP [.int .i64 (-4)],
     ofP [.int .i64 (-4)],
     ofP [.int .i64 (-3)],
     ofP [.int .i64 (-1)],
     ofP [.int .i64 6]]) := by kernel_rfl
def noP : List Value → Prop
  | [] => True
  | _ => False
theorem wakes_gives (args : List Value) (h : noP args) : Gives P 22 args.toArray (.bool true) := by
  unfold noP at h
  split at h
  · exact gives_of_run mo wakes_run (ps_cons ⟨by decide, by decide⟩ (ps_cons ⟨by decide, by decide⟩ (ps_cons (P2_W _ _) (ps_cons ⟨by decide, by decide⟩ (ps_cons ⟨by decide, by decide⟩ (ps_cons (P2_W _ _) (ps_cons ⟨by decide, by decide⟩ (ps_cons ⟨by decide, by decide⟩ (ps_cons (P2_W _ _) (ps_cons ⟨by decide, by decide⟩ (ps_cons ⟨by decide, by decide⟩ (ps_cons (P2_W _ _) (ps_cons ⟨by decide, by decide⟩ (ps_cons ⟨by decide, by decide⟩ (ps_cons (P2_W _ _) (ps_cons ⟨by decide, by decide⟩ (ps_cons ⟨IsW_W _, ⟨by decide, by decide⟩⟩ (ps_cons ⟨IsW_W _, ⟨by decide, by decide⟩, by decide +kernel⟩ (ps_cons ⟨⟨by decide, by decide⟩, ⟨by decide, by decide⟩, ⟨by decide, by decide⟩⟩ (ps_cons ⟨by decide, by decide⟩ (ps_cons ⟨by decide, by decide⟩ (ps_cons ⟨by decide, by decide⟩ (ps_cons ⟨by decide, by decide⟩ (ps_cons ⟨by decide, by decide⟩ ps_nil)))))))))))))))))))))))) rfl
  · exact h.elim
noncomputable def wakes : Ctr P := ⟨22, noP, fun _ => .bool true, wakes_gives⟩
theorem i64B_in {n : Int} (h : i64B n = true) : I64 n := by unfold i64B at h; simp only [Bool.and_eq_true, decide_eq_true_eq] at h; exact h
noncomputable def EL : Env P := ⟨⟨wakes :: LC, []⟩, [], 10, []⟩
theorem qv_ok (f : Int → Int → Int) {a b : Int} (ha : Sm a) (hb : Sm b) (h : b ≠ 0) : qv f a b = f a b := by unfold qv; rw [qe_ok ha hb h, if_pos rfl]
theorem cq_in {a b : Int} (ha : Sm a) (hb : Sm b) (h : b ≠ 0) : InR (cq a b) := by
  unfold cq
  split
  · exact (fl_facts ha hb h).2.2.2.1
  · rename_i hr
    exact up_in ha hb h hr
theorem tI_qv (f : Int → Int → Int) {a b : Int} (ha : Sm a) (hb : Sm b) (h : b ≠ 0) (hi : InR (f a b)) : tI (W (qv f a b)) = f a b := by rw [qv_ok f ha hb h, tI_in hi]
theorem weq_fl {q b r a : Int} (h : b * q + r = a) : (!(weq ((tI (W (q * b))) + r) a)) = false := by
  have : weq ((tI (W (q * b))) + r) a = true := by
    rw [weq_iff, tI_W]
    have e := bm_mod (q * b)
    rw [Int.mul_comm q b] at *
    simp only [MM] at *
    omega
  rw [this]; rfl
theorem weq_self {x y : Int} (h : x = y) : weq x y = true := by subst h; exact weq_iff.2 rfl
theorem nlt {a : Int} (h : Sm a) : weq a (-57896044618658097711785492504343953926634992332820282019728792003956564819968) = false := nwn (inR_of h) (by unfold InR; decide) (by unfold Sm at h; simp only [HH] at h; omega)
theorem d_in {a b : Int} (_ : Sm a) : (!inRB (cq a b - fq a b)) = false := by
  have : InR (cq a b - fq a b) := by unfold InR cq; simp only [HH]; split <;> omega
  rw [inRB_of this]; rfl
theorem sg_r {a b : Int} (ha : Sm a) (hb : Sm b) (h : b ≠ 0) (hr : fr a b ≠ 0) : (cmp3 (fr a b) 0 == cmp3 b 0) = true := by
  obtain ⟨f0, f1, f2, f3, f4⟩ := fl_facts ha hb h
  rw [beq_iff_eq]
  unfold cmp3
  omega
theorem sg_c {a b : Int} (ha : Sm a) (hb : Sm b) (h : b ≠ 0) (_ : fr a b ≠ 0) : (cmp3 (fr a b) b == IntKind.i64.wrap (0 - (cmp3 b 0))) = true := by
  obtain ⟨f0, f1, f2, f3, f4⟩ := fl_facts ha hb h
  rw [beq_iff_eq, wrap_i64_in (by unfold cmp3; omega) (by unfold cmp3; omega)]
  unfold cmp3
  omega
theorem QF0_run (a b : Int) : runF P EL 2 4 [W a, W b] (.b false :: (.b false :: (.b false :: (.b false :: (.b false :: (.b false :: (.b false :: (.b false :: (.b true :: (.b true :: [])))))))))) =
  some (.bool true,
    [P2 [W a, W b],
     P2 [W a, W b],
     P2 [W a, W b],
     (weq b 0) = false,
     (weq a (-57896044618658097711785492504343953926634992332820282019728792003956564819968)) = false,
     (weq b (-57896044618658097711785492504343953926634992332820282019728792003956564819968)) = false,
     P2 [W (qv fq (tI (W a)) (tI (W b))), W b],
     P2 [W (tI (W (qv fq (tI (W a)) (tI (W b)))) * tI (W b)), W (qv fr (tI (W a)) (tI (W b)))],
     P2 [W (qv cq (tI (W a)) (tI (W b))), W (qv fq (tI (W a)) (tI (W b)))],
     (qe (tI (W a)) (tI (W b)) != 0) = false,
     (qe (tI (W a)) (tI (W b)) != 0) = false,
     (qe (tI (W a)) (tI (W b)) != 0) = false,
     (!inRB (tI (W (qv cq (tI (W a)) (tI (W b)))) - tI (W (qv fq (tI (W a)) (tI (W b)))))) = false,
     (!(weq (tI (W (tI (W (qv fq (tI (W a)) (tI (W b)))) * tI (W b))) + tI (W (qv fr (tI (W a)) (tI (W b))))) a)) = false,
     (weq (qv fr (tI (W a)) (tI (W b))) 0) = true,
     (weq (tI (W (qv cq (tI (W a)) (tI (W b)))) - tI (W (qv fq (tI (W a)) (tI (W b))))) (qv fr (tI (W a)) (tI (W b)))) = true,
     noP []]) := by kernel_rfl
theorem QF0_leaf (a b : Int) (ha : Sm a) (hb : Sm b) (h : b ≠ 0) (hr : fr a b = 0) : Gives P 4 #[W a, W b] (.bool true) := by
  have hH : HH = 57896044618658097711785492504343953926634992332820282019728792003956564819968 := rfl
  have i1 : InR a := inR_of ha
  have i2 : InR b := inR_of hb
  obtain ⟨f0, f1, f2, f3, f4⟩ := fl_facts ha hb h
  have he := qe_ok ha hb h
  have e0 : tI (W a) = a := tI_in i1
  have e1 : tI (W b) = b := tI_in i2
  have e2 : tI (W (qv fq a b)) = fq a b := tI_qv fq ha hb h f3
  have e3 : tI (W (qv cq a b)) = cq a b := tI_qv cq ha hb h (cq_in ha hb h)
  have e4 : tI (W (qv fr a b)) = fr a b := tI_qv fr ha hb h f4
  have R := QF0_run a b
  rw [e0, e1, e2, e3, e4] at R
  simp only [qv_ok fq ha hb h, qv_ok fr ha hb h, qv_ok cq ha hb h] at R
  refine gives_of_run mo R (ps_cons (P2_W _ _) (ps_cons (P2_W _ _) (ps_cons (P2_W _ _) (ps_cons (weq0_f i2 h) (ps_cons (nlt ha) (ps_cons (nlt hb) (ps_cons (P2_W _ _) (ps_cons (P2_W _ _) (ps_cons (P2_W _ _) (ps_cons (by rw [he]; rfl) (ps_cons (by rw [he]; rfl) (ps_cons (by rw [he]; rfl) (ps_cons (d_in ha) (ps_cons (weq_fl f0) (ps_cons (weq_self hr) (ps_cons (weq_self (by unfold cq; rw [if_pos hr, hr]; omega)) (ps_cons trivial ps_nil))))))))))))))))) ?_
  rfl
theorem QF1_run (a b : Int) : runF P EL 2 4 [W a, W b] (.b false :: (.b false :: (.b false :: (.b false :: (.b false :: (.b false :: (.b false :: (.b false :: (.b false :: (.b true :: (.b true :: (.b true :: [])))))))))))) =
  some (.bool true,
    [P2 [W a, W b],
     P2 [W a, W b],
     P2 [W a, W b],
     (weq b 0) = false,
     (weq a (-57896044618658097711785492504343953926634992332820282019728792003956564819968)) = false,
     (weq b (-57896044618658097711785492504343953926634992332820282019728792003956564819968)) = false,
     P2 [W (qv fq (tI (W a)) (tI (W b))), W b],
     P2 [W (tI (W (qv fq (tI (W a)) (tI (W b)))) * tI (W b)), W (qv fr (tI (W a)) (tI (W b)))],
     P2 [W (qv cq (tI (W a)) (tI (W b))), W (qv fq (tI (W a)) (tI (W b)))],
     (qe (tI (W a)) (tI (W b)) != 0) = false,
     (qe (tI (W a)) (tI (W b)) != 0) = false,
     (qe (tI (W a)) (tI (W b)) != 0) = false,
     (!inRB (tI (W (qv cq (tI (W a)) (tI (W b)))) - tI (W (qv fq (tI (W a)) (tI (W b)))))) = false,
     (!(weq (tI (W (tI (W (qv fq (tI (W a)) (tI (W b)))) * tI (W b))) + tI (W (qv fr (tI (W a)) (tI (W b))))) a)) = false,
     (weq (qv fr (tI (W a)) (tI (W b))) 0) = false,
     ofP [.int .i64 1],
     (weq (tI (W (qv cq (tI (W a)) (tI (W b)))) - tI (W (qv fq (tI (W a)) (tI (W b))))) 1) = true,
     P1 [W (qv fr (tI (W a)) (tI (W b)))],
     P1 [W b],
     (cmp3 (tI (W (qv fr (tI (W a)) (tI (W b))))) 0 == cmp3 (tI (W b)) 0) = true,
     P2 [W (qv fr (tI (W a)) (tI (W b))), W b],
     P1 [W b],
     (cmp3 (tI (W (qv fr (tI (W a)) (tI (W b))))) (tI (W b)) == IntKind.i64.wrap (0 - (cmp3 (tI (W b)) 0))) = true,
     noP []]) := by kernel_rfl
theorem QF1_leaf (a b : Int) (ha : Sm a) (hb : Sm b) (h : b ≠ 0) (hr : fr a b ≠ 0) : Gives P 4 #[W a, W b] (.bool true) := by
  have hH : HH = 57896044618658097711785492504343953926634992332820282019728792003956564819968 := rfl
  have i1 : InR a := inR_of ha
  have i2 : InR b := inR_of hb
  obtain ⟨f0, f1, f2, f3, f4⟩ := fl_facts ha hb h
  have he := qe_ok ha hb h
  have e0 : tI (W a) = a := tI_in i1
  have e1 : tI (W b) = b := tI_in i2
  have e2 : tI (W (qv fq a b)) = fq a b := tI_qv fq ha hb h f3
  have e3 : tI (W (qv cq a b)) = cq a b := tI_qv cq ha hb h (cq_in ha hb h)
  have e4 : tI (W (qv fr a b)) = fr a b := tI_qv fr ha hb h f4
  have R := QF1_run a b
  rw [e0, e1, e2, e3, e4] at R
  simp only [qv_ok fq ha hb h, qv_ok fr ha hb h, qv_ok cq ha hb h] at R
  refine gives_of_run mo R (ps_cons (P2_W _ _) (ps_cons (P2_W _ _) (ps_cons (P2_W _ _) (ps_cons (weq0_f i2 h) (ps_cons (nlt ha) (ps_cons (nlt hb) (ps_cons (P2_W _ _) (ps_cons (P2_W _ _) (ps_cons (P2_W _ _) (ps_cons (by rw [he]; rfl) (ps_cons (by rw [he]; rfl) (ps_cons (by rw [he]; rfl) (ps_cons (d_in ha) (ps_cons (weq_fl f0) (ps_cons (weq0_f f4 hr) (ps_cons ⟨by decide, by decide⟩ (ps_cons (weq_self (by unfold cq; rw [if_neg hr]; omega)) (ps_cons (P1_W _) (ps_cons (P1_W _) (ps_cons (sg_r ha hb h hr) (ps_cons (P2_W _ _) (ps_cons (P1_W _) (ps_cons (sg_c ha hb h hr) (ps_cons trivial ps_nil)))))))))))))))))))))))) ?_
  rfl
theorem qv_e (f : Int → Int → Int) {a b : Int} (h : qe a b ≠ 0) : qv f a b = 0 := by unfold qv; rw [if_neg h]
theorem qe_l {a b : Int} (h : b ≠ 0) (hl : a = -HH ∨ b = -HH) : qe a b = 20 := by unfold qe; rw [if_neg h, if_pos hl]
theorem QFZ_run (a b : Int) : runF P EL 1 4 [W a, W b] (.b true :: (.b true :: (.b true :: (.b true :: (.b true :: (.b true :: (.b true :: []))))))) =
  some (.bool true,
    [P2 [W a, W b],
     P2 [W a, W b],
     P2 [W a, W b],
     (weq b 0) = true,
     (qe (tI (W a)) (tI (W b)) == 30) = true,
     (qe (tI (W a)) (tI (W b)) == 30) = true,
     (qe (tI (W a)) (tI (W b)) == 30) = true,
     (weq (qv fq (tI (W a)) (tI (W b))) b) = true,
     (weq (qv fr (tI (W a)) (tI (W b))) b) = true,
     (weq (qv cq (tI (W a)) (tI (W b))) b) = true,
     noP []]) := by kernel_rfl
theorem QFZ_leaf (a b : Int) (i1 : InR a) (i2 : InR b) (h : b = 0) : Gives P 4 #[W a, W b] (.bool true) := by
  have he : qe a b = 30 := by unfold qe; rw [if_pos h]
  have hn : qe a b ≠ 0 := by omega
  have e0 : tI (W a) = a := tI_in i1
  have e1 : tI (W b) = b := tI_in i2
  have R := QFZ_run a b
  rw [e0, e1] at R
  simp only [qv_e fq hn, qv_e fr hn, qv_e cq hn] at R
  refine gives_of_run mo R (ps_cons (P2_W _ _) (ps_cons (P2_W _ _) (ps_cons (P2_W _ _) (ps_cons (weq_self h) (ps_cons (by rw [he]; rfl) (ps_cons (by rw [he]; rfl) (ps_cons (by rw [he]; rfl) (ps_cons (weq_self h.symm) (ps_cons (weq_self h.symm) (ps_cons (weq_self h.symm) (ps_cons trivial ps_nil))))))))))) ?_
  rfl
theorem QFA_run (a b : Int) : runF P EL 2 4 [W a, W b] (.b false :: (.b true :: (.lit :: (.b true :: (.b true :: (.b true :: [])))))) =
  some (.bool true,
    [P2 [W a, W b],
     P2 [W a, W b],
     P2 [W a, W b],
     (weq b 0) = false,
     (weq a (-57896044618658097711785492504343953926634992332820282019728792003956564819968)) = true,
     (qe (tI (W a)) (tI (W b)) == 20) = true,
     (qe (tI (W a)) (tI (W b)) == 20) = true,
     (qe (tI (W a)) (tI (W b)) == 20) = true,
     noP []]) := by kernel_rfl
theorem QFA_leaf (a b : Int) (i1 : InR a) (i2 : InR b) (h : b ≠ 0) (hl : a = -57896044618658097711785492504343953926634992332820282019728792003956564819968) : Gives P 4 #[W a, W b] (.bool true) := by
  have he : qe a b = 20 := qe_l h (.inl hl)
  have e0 : tI (W a) = a := tI_in i1
  have e1 : tI (W b) = b := tI_in i2
  have R := QFA_run a b
  rw [e0, e1] at R
  refine gives_of_run mo R (ps_cons (P2_W _ _) (ps_cons (P2_W _ _) (ps_cons (P2_W _ _) (ps_cons (weq0_f i2 h) (ps_cons (weq_self hl) (ps_cons (by rw [he]; rfl) (ps_cons (by rw [he]; rfl) (ps_cons (by rw [he]; rfl) (ps_cons trivial ps_nil))))))))) ?_
  rfl
theorem QFB_run (a b : Int) : runF P EL 2 4 [W a, W b] (.b false :: (.b false :: (.b true :: (.b true :: (.b true :: (.b true :: [])))))) =
  some (.bool true,
    [P2 [W a, W b],
     P2 [W a, W b],
     P2 [W a, W b],
     (weq b 0) = false,
     (weq a (-57896044618658097711785492504343953926634992332820282019728792003956564819968)) = false,
     (weq b (-57896044618658097711785492504343953926634992332820282019728792003956564819968)) = true,
     (qe (tI (W a)) (tI (W b)) == 20) = true,
     (qe (tI (W a)) (tI (W b)) == 20) = true,
     (qe (tI (W a)) (tI (W b)) == 20) = true,
     noP []]) := by kernel_rfl
theorem QFB_leaf (a b : Int) (i1 : InR a) (i2 : InR b) (h : b ≠ 0) (hl : a ≠ -57896044618658097711785492504343953926634992332820282019728792003956564819968) (hb : b = -57896044618658097711785492504343953926634992332820282019728792003956564819968) : Gives P 4 #[W a, W b] (.bool true) := by
  have he : qe a b = 20 := qe_l h (.inr hb)
  have e0 : tI (W a) = a := tI_in i1
  have e1 : tI (W b) = b := tI_in i2
  have R := QFB_run a b
  rw [e0, e1] at R
  refine gives_of_run mo R (ps_cons (P2_W _ _) (ps_cons (P2_W _ _) (ps_cons (P2_W _ _) (ps_cons (weq0_f i2 h) (ps_cons (nwn i1 (by unfold InR; decide) hl) (ps_cons (weq_self hb) (ps_cons (by rw [he]; rfl) (ps_cons (by rw [he]; rfl) (ps_cons (by rw [he]; rfl) (ps_cons trivial ps_nil)))))))))) ?_
  rfl
theorem QuotFloor_all {a b : Int} (i1 : InR a) (i2 : InR b) : Gives P 4 #[W a, W b] (.bool true) := by
  by_cases h : b = 0
  · exact QFZ_leaf a b i1 i2 h
  by_cases h1 : a = -HH
  · exact QFA_leaf a b i1 i2 h h1
  by_cases h2 : b = -HH
  · exact QFB_leaf a b i1 i2 h h1 h2
  have ha : Sm a := by unfold InR Sm at *; omega
  have hb : Sm b := by unfold InR Sm at *; omega
  by_cases hr : fr a b = 0
  · exact QF0_leaf a b ha hb h hr
  · exact QF1_leaf a b ha hb h hr

/-! ### Turned about -/
theorem fq_tt {a b : Int} (h : b ≠ 0) : fq (-a) (-b) = fq a b ∧ fr (-a) (-b) = -fr a b := by
  unfold fq fr
  by_cases h1 : 0 < b
  · rw [if_pos h1, if_pos h1, if_neg (by omega), if_neg (by omega), Int.neg_neg, Int.neg_neg]
    exact ⟨rfl, rfl⟩
  · rw [if_neg h1, if_neg h1, if_pos (by omega), if_pos (by omega)]
    exact ⟨rfl, by omega⟩
theorem fq_tp {a b : Int} (h : 0 < b) : (fr a b = 0 → fq (-a) b = -fq a b ∧ fr (-a) b = 0) ∧ (fr a b ≠ 0 → fq (-a) b = -fq a b - 1 ∧ fr (-a) b = b - fr a b) := by
  unfold fq fr
  rw [if_pos h, if_pos h, if_pos h, if_pos h]
  have e := Int.mul_ediv_add_emod a b
  have r0 := Int.emod_nonneg a (b := b) (by omega)
  have r1 := Int.emod_lt_of_pos a h
  generalize a / b = q at *
  generalize a % b = r at *
  refine ⟨fun h0 => ?_, fun h0 => ?_⟩
  · exact (Int.ediv_emod_unique (a := -a) (b := b) (r := 0) (q := -q) h).2 ⟨by rw [Int.mul_neg]; omega, by omega, by omega⟩
  · exact (Int.ediv_emod_unique (a := -a) (b := b) (r := b - r) (q := -q - 1) h).2 ⟨by rw [Int.mul_sub, Int.mul_neg]; omega, by omega, by omega⟩
theorem nc_tt {a b : Int} (h : b ≠ 0) : nc (-a) (-b) = nc a b := by
  unfold nc
  rw [(fq_tt (a := a) h).2]
  have e1 : cmp3 (-fr a b) (-b - -fr a b) = -cmp3 (fr a b) (b - fr a b) := by unfold cmp3; omega
  have e2 : cmp3 (-b) 0 = -cmp3 b 0 := by unfold cmp3; omega
  rw [e1, e2, Int.neg_mul_neg]
theorem nq_tt {a b : Int} (h : b ≠ 0) : nq (-a) (-b) = nq a b := by unfold nq; rw [nc_tt h, (fq_tt h).1]
theorem cq_tt {a b : Int} (h : b ≠ 0) : cq (-a) (-b) = cq a b := by
  unfold cq
  rw [(fq_tt (a := a) h).1, (fq_tt (a := a) h).2]
  by_cases e : fr a b = 0
  · rw [if_pos e, if_pos (by omega)]
  · rw [if_neg e, if_neg (by omega)]
theorem ncp {a b : Int} (h : 0 < b) : nc a b = cmp3 (fr a b) (b - fr a b) := by
  unfold nc
  have e : cmp3 b 0 = 1 := by unfold cmp3; omega
  rw [e, Int.mul_one]
theorem nq_tp {a b : Int} (h : 0 < b) : nq (-a) b = -nq a b := by
  obtain ⟨h0, h1⟩ := fq_tp (a := a) h
  unfold nq
  rw [ncp h, ncp h]
  by_cases e : fr a b = 0
  · obtain ⟨e1, e2⟩ := h0 e
    rw [e1, e2, e]
    have e3 : cmp3 0 (b - 0) = -1 := by unfold cmp3; omega
    rw [e3]
    simp
  · obtain ⟨e1, e2⟩ := h1 e
    rw [e1, e2]
    have e3 : cmp3 (b - fr a b) (b - (b - fr a b)) = -cmp3 (fr a b) (b - fr a b) := by unfold cmp3; omega
    rw [e3]
    have := cmp3_r (fr a b) (b - fr a b)
    split <;> split <;> omega
theorem nq_na {a b : Int} (h : b ≠ 0) : nq (-a) b = -nq a b := by
  by_cases h1 : 0 < b
  · exact nq_tp h1
  · have e := nq_tt (a := -a) h
    rw [Int.neg_neg] at e
    rw [← e, ← nq_tt (a := a) h]
    have := nq_tp (a := -a) (b := -b) (by omega)
    rw [Int.neg_neg] at this
    omega
theorem nq_nb {a b : Int} (h : b ≠ 0) : nq a (-b) = -nq a b := by
  have := nq_tt (a := -a) h
  rw [Int.neg_neg] at this
  rw [this, nq_na h]
theorem cq_turn {a b : Int} (h : b ≠ 0) : cq a b = -fq (-a) b := by
  have key : ∀ {a b : Int}, 0 < b → cq a b = -fq (-a) b := fun {a b} h => by
    obtain ⟨h0, h1⟩ := fq_tp (a := a) h
    unfold cq
    by_cases e : fr a b = 0
    · rw [if_pos e, (h0 e).1]; omega
    · rw [if_neg e, (h1 e).1]; omega
  by_cases h1 : 0 < b
  · exact key h1
  · rw [← cq_tt h, key (a := -a) (b := -b) (by omega), fq_tt (a := -a) h |>.1]
theorem own {b : Int} (h : b ≠ 0) : fr b b = 0 ∧ nq b b = 1 ∧ fq b 1 = b := by
  have key : ∀ {b : Int}, 0 < b → fr b b = 0 ∧ nq b b = 1 := fun {b} h => by
    have e1 : fr b b = 0 := by unfold fr; rw [if_pos h, Int.emod_self]
    have e2 : fq b b = 1 := by unfold fq; rw [if_pos h, Int.ediv_self (by omega)]
    refine ⟨e1, ?_⟩
    unfold nq
    rw [ncp h, e1, e2]
    have e3 : cmp3 0 (b - 0) = -1 := by unfold cmp3; omega
    rw [e3]
    simp
  refine ⟨?_, ?_, ?_⟩
  · by_cases h1 : 0 < b
    · exact (key h1).1
    · have := (fq_tt (a := b) h).2
      rw [(key (b := -b) (by omega)).1] at this
      omega
  · by_cases h1 : 0 < b
    · exact (key h1).2
    · rw [← nq_tt h]; exact (key (b := -b) (by omega)).2
  · unfold fq; rw [if_pos (by omega), Int.ediv_one]

/-! ### size, nearest -/
def ab (x : Int) : Int := if x < 0 then -x else x
/-- What is left of a by the nearest. -/
def dn (a b : Int) : Int := a - nq a b * b
theorem dn_facts {a b : Int} (ha : Sm a) (hb : Sm b) (h : b ≠ 0) : (dn a b = fr a b ∨ dn a b = fr a b - b) ∧ Sm (dn a b) ∧ ab (dn a b) ≤ ab b - ab (dn a b) ∧ (ab (dn a b) = ab b - ab (dn a b) → cmp3 (dn a b) 0 = -cmp3 a 0) := by
  obtain ⟨f0, f1, f2, f3, f4⟩ := fl_facts ha hb h
  have hn : nq a b = if nc a b > 0 ∨ nc a b = 0 ∧ 0 ≤ fq a b then fq a b + 1 else fq a b := rfl
  have hc : nc a b = cmp3 (fr a b) (b - fr a b) * cmp3 b 0 := rfl
  have hd : dn a b = a - nq a b * b := rfl
  have hq : (0 ≤ fq a b → b * fq a b * cmp3 b 0 ≥ 0) ∧ (fq a b < 0 → b * fq a b * cmp3 b 0 ≤ -(b * cmp3 b 0)) := by
    by_cases h1 : 0 < b
    · have e : cmp3 b 0 = 1 := by unfold cmp3; omega
      rw [e]
      refine ⟨fun hq => ?_, fun hq => ?_⟩
      · have := Int.mul_nonneg (Int.le_of_lt h1) hq; omega
      · have := Int.mul_le_mul_of_nonneg_left (show fq a b ≤ -1 by omega) (Int.le_of_lt h1); omega
    · have e : cmp3 b 0 = -1 := by unfold cmp3; omega
      rw [e]
      refine ⟨fun hq => ?_, fun hq => ?_⟩
      · have := Int.mul_nonneg (a := -b) (by omega) hq; rw [Int.neg_mul] at this; omega
      · have := Int.mul_le_mul_of_nonneg_left (c := -b) (show fq a b ≤ -1 by omega) (by omega); rw [Int.neg_mul] at this; omega
  unfold Sm at *
  generalize fq a b = q at *
  generalize fr a b = r at *
  have hd2 : dn a b = r ∨ dn a b = r - b := by
    rw [hd, hn]
    split
    · right; rw [Int.add_mul, Int.mul_comm q b]; omega
    · left; rw [Int.mul_comm q b]; omega
  have hw : (nc a b > 0 ∨ nc a b = 0 ∧ 0 ≤ q) → dn a b = r - b := fun hw => by rw [hd, hn, if_pos hw, Int.add_mul, Int.mul_comm q b]; omega
  have hw2 : ¬ (nc a b > 0 ∨ nc a b = 0 ∧ 0 ≤ q) → dn a b = r := fun hw => by rw [hd, hn, if_neg hw, Int.mul_comm q b]; omega
  generalize dn a b = d at *
  generalize nc a b = c at *
  refine ⟨hd2, by omega, ?_⟩
  by_cases h1 : 0 < b
  · have e : cmp3 b 0 = 1 := by unfold cmp3; omega
    rw [e, Int.mul_one] at hc hq
    unfold ab
    unfold cmp3 at hc ⊢
    generalize b * q = bq at *
    by_cases hcc : c > 0 ∨ c = 0 ∧ 0 ≤ q
    · have := hw hcc; omega
    · have := hw2 hcc; omega
  · have e : cmp3 b 0 = -1 := by unfold cmp3; omega
    rw [e, Int.mul_neg, Int.mul_one] at hc hq
    unfold ab
    unfold cmp3 at hc ⊢
    generalize b * q = bq at *
    by_cases hcc : c > 0 ∨ c = 0 ∧ 0 ≤ q
    · have := hw hcc; omega
    · have := hw2 hcc; omega
noncomputable def ES : Env P := ⟨Rd.refC, [], 10, []⟩
theorem sz0_run (a : Int) : runF P ES 1 65 [W a] (.b true :: []) =
  some (W (-tI (W a)),
    [P1 [W a],
     (decide (cmp3 (tI (W a)) 0 < 0)) = true,
     P1 [W a]]) := by kernel_rfl
theorem sz0_leaf (a : Int) (h : Sm a) (h1 : a < 0) : Gives P 65 #[W a] (W (ab a)) := by
  have i1 : InR a := inR_of h
  unfold Sm at h
  have e0 : tI (W a) = a := tI_in i1
  have R := sz0_run a
  rw [e0] at R
  refine gives_of_run mo R (ps_cons (P1_W _) (ps_cons (lt_t h1) (ps_cons (P1_W _) ps_nil))) ?_
  unfold ab
  rw [if_pos h1]
theorem sz1_run (a : Int) : runF P ES 1 65 [W a] (.b false :: []) =
  some (W a,
    [P1 [W a],
     (decide (cmp3 (tI (W a)) 0 < 0)) = false]) := by kernel_rfl
theorem sz1_leaf (a : Int) (h : Sm a) (h1 : ¬ a < 0) : Gives P 65 #[W a] (W (ab a)) := by
  have i1 : InR a := inR_of h
  unfold Sm at h
  have e0 : tI (W a) = a := tI_in i1
  have R := sz1_run a
  rw [e0] at R
  refine gives_of_run mo R (ps_cons (P1_W _) (ps_cons (lt_f h1) ps_nil)) ?_
  unfold ab
  rw [if_neg h1]
def szP : List Value → Prop
  | [x] => IsW x ∧ Sm (tI x)
  | _ => False
def szV : List Value → Value
  | [x] => W (ab (tI x))
  | _ => undef
theorem size_gives' (args : List Value) (h : szP args) : Gives P 65 args.toArray (szV args) := by
  unfold szP at h
  split at h
  · rename_i x
    obtain ⟨ex, rx⟩ := isW_in h.1
    have key : Gives P 65 #[W (tI x)] (W (ab (tI x))) := by
      by_cases h1 : tI x < 0
      · exact sz0_leaf _ h.2 h1
      · exact sz1_leaf _ h.2 h1
    rw [← ex] at key
    exact key
  · exact h.elim
noncomputable def lsize : Ctr P := ⟨65, szP, szV, size_gives'⟩
noncomputable def EN : Env P := ⟨⟨lsize :: Rd.refC, []⟩, [], 10, []⟩
theorem sz_at {n : Int} (h : Sm n) : szP [W n] := ⟨⟨_, rfl⟩, by rw [tI_in (inR_of h)]; exact h⟩
theorem tI_dn {a b : Int} (ha : Sm a) (hb : Sm b) (h : b ≠ 0) : tI (W (a - tI (W (nq a b * b)))) = dn a b := by
  have hs := (dn_facts ha hb h).2.1
  have e : W (a - tI (W (nq a b * b))) = W (dn a b) := W_congr (by
    rw [tI_W]
    have := bm_mod (nq a b * b)
    unfold dn
    simp only [MM] at *
    omega)
  rw [e, tI_in (inR_of hs)]
theorem sz_dn {a b : Int} (ha : Sm a) (hb : Sm b) (h : b ≠ 0) : szP [W (a - tI (W (nq a b * b)))] := ⟨⟨_, rfl⟩, by rw [tI_dn ha hb h]; exact (dn_facts ha hb h).2.1⟩
theorem ab_in {x : Int} (h : Sm x) : InR (ab x) := by unfold ab InR Sm at *; split <;> omega
theorem c_lt {x y : Int} (h : x < y) : (decide (cmp3 x y < 0)) = true := decide_eq_true (by unfold cmp3; omega)
theorem c_nlt {x y : Int} (h : ¬ x < y) : (decide (cmp3 x y < 0)) = false := decide_eq_false (by unfold cmp3; omega)
theorem c_eq {x y : Int} (h : x = y) : (cmp3 x y == 0) = true := by rw [beq_iff_eq]; unfold cmp3; omega
theorem sg_n {x y : Int} (h : cmp3 x 0 = -cmp3 y 0) : (cmp3 x 0 == IntKind.i64.wrap (0 - (cmp3 y 0))) = true := by
  rw [beq_iff_eq, wrap_i64_in (by unfold cmp3; omega) (by unfold cmp3; omega)]
  omega
theorem ne0_run (a b : Int) : runF P EN 1 31 [W a, W b, W (nq a b)] (.b true :: []) =
  some (.bool true,
    [P2 [W (nq a b), W b],
     P2 [W a, W (tI (W (nq a b)) * tI (W b))],
     szP [W b],
     szP [W (tI (W a) - tI (W (tI (W (nq a b)) * tI (W b))))],
     P2 [W (ab (tI (W b))), W (ab (tI (W (tI (W a) - tI (W (tI (W (nq a b)) * tI (W b)))))))],
     szP [W (tI (W a) - tI (W (tI (W (nq a b)) * tI (W b))))],
     P2 [W (ab (tI (W (tI (W a) - tI (W (tI (W (nq a b)) * tI (W b))))))), W (tI (W (ab (tI (W b)))) - tI (W (ab (tI (W (tI (W a) - tI (W (tI (W (nq a b)) * tI (W b)))))))))],
     (decide (cmp3 (tI (W (ab (tI (W (tI (W a) - tI (W (tI (W (nq a b)) * tI (W b))))))))) (tI (W (tI (W (ab (tI (W b)))) - tI (W (ab (tI (W (tI (W a) - tI (W (tI (W (nq a b)) * tI (W b))))))))))) < 0)) = true]) := by kernel_rfl
theorem ne0_leaf (a b : Int) (ha : Sm a) (hb : Sm b) (h : b ≠ 0) (hx : ab (dn a b) < ab b - ab (dn a b)) : Gives P 31 #[W a, W b, W (nq a b)] (.bool true) := by
  have i1 : InR a := inR_of ha
  have i2 : InR b := inR_of hb
  obtain ⟨g1, g2, g3, g4⟩ := dn_facts ha hb h
  have e0 : tI (W (nq a b)) = nq a b := tI_in (nq_in ha hb h)
  have e1 : tI (W b) = b := tI_in i2
  have e2 : tI (W a) = a := tI_in i1
  have e3 : tI (W (a - (tI (W ((nq a b) * b))))) = dn a b := tI_dn ha hb h
  have e4 : tI (W (ab b)) = ab b := tI_in (ab_in hb)
  have e5 : tI (W (ab ((dn a b)))) = ab ((dn a b)) := tI_in (ab_in g2)
  have e6 : tI (W ((ab b) - (ab ((dn a b))))) = (ab b) - (ab ((dn a b))) := tI_in (by unfold InR; unfold ab Sm at *; omega)
  have R := ne0_run a b
  rw [e0, e1, e2, e3, e4, e5, e6] at R
  refine gives_of_run mo R (ps_cons (P2_W _ _) (ps_cons (P2_W _ _) (ps_cons (sz_at hb) (ps_cons (sz_dn ha hb h) (ps_cons (P2_W _ _) (ps_cons (sz_dn ha hb h) (ps_cons (P2_W _ _) (ps_cons (c_lt hx) ps_nil)))))))) ?_
  rfl
theorem ne1_run (a b : Int) : runF P EN 1 31 [W a, W b, W (nq a b)] (.b false :: (.b true :: [])) =
  some (.bool (cmp3 (tI (W (tI (W a) - tI (W (tI (W (nq a b)) * tI (W b)))))) 0 == IntKind.i64.wrap (0 - (cmp3 (tI (W a)) 0))),
    [P2 [W (nq a b), W b],
     P2 [W a, W (tI (W (nq a b)) * tI (W b))],
     szP [W b],
     szP [W (tI (W a) - tI (W (tI (W (nq a b)) * tI (W b))))],
     P2 [W (ab (tI (W b))), W (ab (tI (W (tI (W a) - tI (W (tI (W (nq a b)) * tI (W b)))))))],
     szP [W (tI (W a) - tI (W (tI (W (nq a b)) * tI (W b))))],
     P2 [W (ab (tI (W (tI (W a) - tI (W (tI (W (nq a b)) * tI (W b))))))), W (tI (W (ab (tI (W b)))) - tI (W (ab (tI (W (tI (W a) - tI (W (tI (W (nq a b)) * tI (W b)))))))))],
     (decide (cmp3 (tI (W (ab (tI (W (tI (W a) - tI (W (tI (W (nq a b)) * tI (W b))))))))) (tI (W (tI (W (ab (tI (W b)))) - tI (W (ab (tI (W (tI (W a) - tI (W (tI (W (nq a b)) * tI (W b))))))))))) < 0)) = false,
     (cmp3 (tI (W (ab (tI (W (tI (W a) - tI (W (tI (W (nq a b)) * tI (W b))))))))) (tI (W (tI (W (ab (tI (W b)))) - tI (W (ab (tI (W (tI (W a) - tI (W (tI (W (nq a b)) * tI (W b))))))))))) == 0) = true,
     P1 [W (tI (W a) - tI (W (tI (W (nq a b)) * tI (W b))))],
     P1 [W a]]) := by kernel_rfl
theorem ne1_leaf (a b : Int) (ha : Sm a) (hb : Sm b) (h : b ≠ 0) (hx : ab (dn a b) = ab b - ab (dn a b)) : Gives P 31 #[W a, W b, W (nq a b)] (.bool true) := by
  have i1 : InR a := inR_of ha
  have i2 : InR b := inR_of hb
  obtain ⟨g1, g2, g3, g4⟩ := dn_facts ha hb h
  have e0 : tI (W (nq a b)) = nq a b := tI_in (nq_in ha hb h)
  have e1 : tI (W b) = b := tI_in i2
  have e2 : tI (W a) = a := tI_in i1
  have e3 : tI (W (a - (tI (W ((nq a b) * b))))) = dn a b := tI_dn ha hb h
  have e4 : tI (W (ab b)) = ab b := tI_in (ab_in hb)
  have e5 : tI (W (ab ((dn a b)))) = ab ((dn a b)) := tI_in (ab_in g2)
  have e6 : tI (W ((ab b) - (ab ((dn a b))))) = (ab b) - (ab ((dn a b))) := tI_in (by unfold InR; unfold ab Sm at *; omega)
  have R := ne1_run a b
  rw [e0, e1, e2, e3, e4, e5, e6] at R
  refine gives_of_run mo R (ps_cons (P2_W _ _) (ps_cons (P2_W _ _) (ps_cons (sz_at hb) (ps_cons (sz_dn ha hb h) (ps_cons (P2_W _ _) (ps_cons (sz_dn ha hb h) (ps_cons (P2_W _ _) (ps_cons (c_nlt (by omega)) (ps_cons (c_eq hx) (ps_cons (P1_W _) (ps_cons (P1_W _) ps_nil))))))))))) ?_
  rw [sg_n (g4 hx)]
def nearP : List Value → Prop
  | [x, y, z] => IsW x ∧ IsW y ∧ Sm (tI x) ∧ Sm (tI y) ∧ tI y ≠ 0 ∧ z = W (nq (tI x) (tI y))
  | _ => False
theorem near_gives (args : List Value) (h : nearP args) : Gives P 31 args.toArray (.bool true) := by
  unfold nearP at h
  split at h
  · rename_i x y z
    obtain ⟨hx, hy, ha, hb, hn, rfl⟩ := h
    obtain ⟨ex, rx⟩ := isW_in hx
    obtain ⟨ey, ry⟩ := isW_in hy
    have key : Gives P 31 #[W (tI x), W (tI y), W (nq (tI x) (tI y))] (.bool true) := by
      obtain ⟨g1, g2, g3, g4⟩ := dn_facts ha hb hn
      by_cases hx : ab (dn (tI x) (tI y)) < ab (tI y) - ab (dn (tI x) (tI y))
      · exact ne0_leaf _ _ ha hb hn hx
      · exact ne1_leaf _ _ ha hb hn (by omega)
    rw [← ex, ← ey] at key
    exact key
  · exact h.elim
noncomputable def nearest : Ctr P := ⟨31, nearP, fun _ => .bool true, near_gives⟩
noncomputable def ELn : Env P := ⟨⟨wakes :: nearest :: LC, []⟩, [], 10, []⟩
theorem near_at {a b n : Int} (ha : Sm a) (hb : Sm b) (h : b ≠ 0) (e : n = nq a b) : nearP [W a, W b, W n] := by
  refine ⟨⟨_, rfl⟩, ⟨_, rfl⟩, by rw [tI_in (inR_of ha)]; exact ha, by rw [tI_in (inR_of hb)]; exact hb, by rw [tI_in (inR_of hb)]; exact h, ?_⟩
  rw [tI_in (inR_of ha), tI_in (inR_of hb), e]
theorem sm_neg {a : Int} (h : Sm a) : Sm (-a) := by unfold Sm at *; omega
theorem neg_nz {b : Int} (h : b ≠ 0) : -b ≠ 0 := by omega
theorem QN0_run (a b : Int) : runF P ELn 1 5 [W a, W b] (.b false :: (.b true :: (.b true :: (.lit :: (.lit :: (.b true :: (.b true :: (.b true :: (.b true :: (.b true :: (.b true :: []))))))))))) =
  some (.bool true,
    [P2 [W a, W b],
     P2 [W a, W b],
     P2 [W a, W b],
     (qe (tI (W a)) (tI (W b)) != 0) = false,
     P1 [W a],
     P1 [W b],
     P1 [W (qv nq (tI (W a)) (tI (W b)))],
     P2 [W (-tI (W a)), W b],
     P2 [W a, W (-tI (W b))],
     P2 [W (-tI (W a)), W (-tI (W b))],
     (qe (tI (W a)) (tI (W b)) == 0) = true,
     (weq (qv nq (tI (W a)) (tI (W b))) (qv fq (tI (W a)) (tI (W b)))) = true,
     nearP [W a, W b, W (qv nq (tI (W a)) (tI (W b)))],
     (qe (tI (W (-tI (W a)))) (tI (W b)) == 0) = true,
     (qe (tI (W a)) (tI (W (-tI (W b)))) == 0) = true,
     (qe (tI (W (-tI (W a)))) (tI (W (-tI (W b)))) == 0) = true,
     (weq (qv nq (tI (W (-tI (W a)))) (tI (W b))) (-tI (W (qv nq (tI (W a)) (tI (W b)))))) = true,
     (weq (qv nq (tI (W a)) (tI (W (-tI (W b))))) (-tI (W (qv nq (tI (W a)) (tI (W b)))))) = true,
     (weq (qv nq (tI (W (-tI (W a)))) (tI (W (-tI (W b))))) (qv nq (tI (W a)) (tI (W b)))) = true,
     noP []]) := by kernel_rfl
theorem QN0_leaf (a b : Int) (ha : Sm a) (hb : Sm b) (h : b ≠ 0) (hq : weq (nq a b) (fq a b) = true) : Gives P 5 #[W a, W b] (.bool true) := by
  have hH : HH = 57896044618658097711785492504343953926634992332820282019728792003956564819968 := rfl
  have i1 : InR a := inR_of ha
  have i2 : InR b := inR_of hb
  obtain ⟨f0, f1, f2, f3, f4⟩ := fl_facts ha hb h
  have he := qe_ok ha hb h
  have he1 := qe_ok (sm_neg ha) hb h
  have he2 := qe_ok ha (sm_neg hb) (neg_nz h)
  have he3 := qe_ok (sm_neg ha) (sm_neg hb) (neg_nz h)
  have hN := nq_in ha hb h
  have e0 : tI (W a) = a := tI_in i1
  have e1 : tI (W b) = b := tI_in i2
  have e2 : tI (W (-a)) = (-a) := tI_in (inR_of (sm_neg ha))
  have e3 : tI (W (-b)) = (-b) := tI_in (inR_of (sm_neg hb))
  have e4 : tI (W (qv nq a b)) = nq a b := tI_qv nq ha hb h hN
  have R := QN0_run a b
  rw [e0, e1, e2, e3, e4] at R
  simp only [qv_ok nq ha hb h, qv_ok fq ha hb h, qv_ok nq (sm_neg ha) hb h, qv_ok nq ha (sm_neg hb) (neg_nz h), qv_ok nq (sm_neg ha) (sm_neg hb) (neg_nz h)] at R
  refine gives_of_run mo R (ps_cons (P2_W _ _) (ps_cons (P2_W _ _) (ps_cons (P2_W _ _) (ps_cons (by rw [he]; rfl) (ps_cons (P1_W _) (ps_cons (P1_W _) (ps_cons (P1_W _) (ps_cons (P2_W _ _) (ps_cons (P2_W _ _) (ps_cons (P2_W _ _) (ps_cons (by rw [he]; rfl) (ps_cons hq (ps_cons (near_at ha hb h rfl) (ps_cons (by rw [he1]; rfl) (ps_cons (by rw [he2]; rfl) (ps_cons (by rw [he3]; rfl) (ps_cons (weq_self (nq_na h)) (ps_cons (weq_self (nq_nb h)) (ps_cons (weq_self (nq_tt h)) (ps_cons trivial ps_nil)))))))))))))))))))) ?_
  rfl
theorem QN1_run (a b : Int) : runF P ELn 1 5 [W a, W b] (.b false :: (.b true :: (.b false :: (.b true :: (.lit :: (.b true :: (.b true :: (.b true :: (.b true :: (.b true :: (.b true :: []))))))))))) =
  some (.bool true,
    [P2 [W a, W b],
     P2 [W a, W b],
     P2 [W a, W b],
     (qe (tI (W a)) (tI (W b)) != 0) = false,
     P1 [W a],
     P1 [W b],
     P1 [W (qv nq (tI (W a)) (tI (W b)))],
     P2 [W (-tI (W a)), W b],
     P2 [W a, W (-tI (W b))],
     P2 [W (-tI (W a)), W (-tI (W b))],
     (qe (tI (W a)) (tI (W b)) == 0) = true,
     (weq (qv nq (tI (W a)) (tI (W b))) (qv fq (tI (W a)) (tI (W b)))) = false,
     (weq (qv nq (tI (W a)) (tI (W b))) (qv cq (tI (W a)) (tI (W b)))) = true,
     nearP [W a, W b, W (qv nq (tI (W a)) (tI (W b)))],
     (qe (tI (W (-tI (W a)))) (tI (W b)) == 0) = true,
     (qe (tI (W a)) (tI (W (-tI (W b)))) == 0) = true,
     (qe (tI (W (-tI (W a)))) (tI (W (-tI (W b)))) == 0) = true,
     (weq (qv nq (tI (W (-tI (W a)))) (tI (W b))) (-tI (W (qv nq (tI (W a)) (tI (W b)))))) = true,
     (weq (qv nq (tI (W a)) (tI (W (-tI (W b))))) (-tI (W (qv nq (tI (W a)) (tI (W b)))))) = true,
     (weq (qv nq (tI (W (-tI (W a)))) (tI (W (-tI (W b))))) (qv nq (tI (W a)) (tI (W b)))) = true,
     noP []]) := by kernel_rfl
theorem QN1_leaf (a b : Int) (ha : Sm a) (hb : Sm b) (h : b ≠ 0) (hq : weq (nq a b) (fq a b) = false) (hc : weq (nq a b) (cq a b) = true) : Gives P 5 #[W a, W b] (.bool true) := by
  have hH : HH = 57896044618658097711785492504343953926634992332820282019728792003956564819968 := rfl
  have i1 : InR a := inR_of ha
  have i2 : InR b := inR_of hb
  obtain ⟨f0, f1, f2, f3, f4⟩ := fl_facts ha hb h
  have he := qe_ok ha hb h
  have he1 := qe_ok (sm_neg ha) hb h
  have he2 := qe_ok ha (sm_neg hb) (neg_nz h)
  have he3 := qe_ok (sm_neg ha) (sm_neg hb) (neg_nz h)
  have hN := nq_in ha hb h
  have e0 : tI (W a) = a := tI_in i1
  have e1 : tI (W b) = b := tI_in i2
  have e2 : tI (W (-a)) = (-a) := tI_in (inR_of (sm_neg ha))
  have e3 : tI (W (-b)) = (-b) := tI_in (inR_of (sm_neg hb))
  have e4 : tI (W (qv nq a b)) = nq a b := tI_qv nq ha hb h hN
  have R := QN1_run a b
  rw [e0, e1, e2, e3, e4] at R
  simp only [qv_ok nq ha hb h, qv_ok fq ha hb h, qv_ok cq ha hb h, qv_ok nq (sm_neg ha) hb h, qv_ok nq ha (sm_neg hb) (neg_nz h), qv_ok nq (sm_neg ha) (sm_neg hb) (neg_nz h)] at R
  refine gives_of_run mo R (ps_cons (P2_W _ _) (ps_cons (P2_W _ _) (ps_cons (P2_W _ _) (ps_cons (by rw [he]; rfl) (ps_cons (P1_W _) (ps_cons (P1_W _) (ps_cons (P1_W _) (ps_cons (P2_W _ _) (ps_cons (P2_W _ _) (ps_cons (P2_W _ _) (ps_cons (by rw [he]; rfl) (ps_cons hq (ps_cons hc (ps_cons (near_at ha hb h rfl) (ps_cons (by rw [he1]; rfl) (ps_cons (by rw [he2]; rfl) (ps_cons (by rw [he3]; rfl) (ps_cons (weq_self (nq_na h)) (ps_cons (weq_self (nq_nb h)) (ps_cons (weq_self (nq_tt h)) (ps_cons trivial ps_nil))))))))))))))))))))) ?_
  rfl
theorem QNZ_run (a b : Int) : runF P ELn 1 5 [W a, W b] (.b true :: (.b true :: (.b true :: (.b true :: [])))) =
  some (.bool true,
    [P2 [W a, W b],
     P2 [W a, W b],
     P2 [W a, W b],
     (qe (tI (W a)) (tI (W b)) != 0) = true,
     (qe (tI (W a)) (tI (W b)) == qe (tI (W a)) (tI (W b))) = true,
     (weq (qv nq (tI (W a)) (tI (W b))) 0) = true,
     ((weq b (qv nq (tI (W a)) (tI (W b)))) == (qe (tI (W a)) (tI (W b)) == 30)) = true,
     noP []]) := by kernel_rfl
theorem QNZ_leaf (a b : Int) (i1 : InR a) (i2 : InR b) (h : b = 0) : Gives P 5 #[W a, W b] (.bool true) := by
  have he : qe a b = 30 := by unfold qe; rw [if_pos h]
  have hn : qe a b ≠ 0 := by omega
  have hz : ((weq b 0) == (qe a b == 30)) = true := by rw [he, weq_self h]; rfl
  have e0 : tI (W a) = a := tI_in i1
  have e1 : tI (W b) = b := tI_in i2
  have R := QNZ_run a b
  rw [e0, e1] at R
  simp only [qv_e nq hn] at R
  refine gives_of_run mo R (ps_cons (P2_W _ _) (ps_cons (P2_W _ _) (ps_cons (P2_W _ _) (ps_cons (by rw [he]; rfl) (ps_cons (by simp) (ps_cons (weq_self rfl) (ps_cons hz (ps_cons trivial ps_nil)))))))) ?_
  rfl
theorem QNL_run (a b : Int) : runF P ELn 1 5 [W a, W b] (.b true :: (.b true :: (.b true :: (.b true :: [])))) =
  some (.bool true,
    [P2 [W a, W b],
     P2 [W a, W b],
     P2 [W a, W b],
     (qe (tI (W a)) (tI (W b)) != 0) = true,
     (qe (tI (W a)) (tI (W b)) == qe (tI (W a)) (tI (W b))) = true,
     (weq (qv nq (tI (W a)) (tI (W b))) 0) = true,
     ((weq b (qv nq (tI (W a)) (tI (W b)))) == (qe (tI (W a)) (tI (W b)) == 30)) = true,
     noP []]) := by kernel_rfl
theorem QNL_leaf (a b : Int) (i1 : InR a) (i2 : InR b) (h : b ≠ 0) (hl : a = -HH ∨ b = -HH) : Gives P 5 #[W a, W b] (.bool true) := by
  have he : qe a b = 20 := qe_l h hl
  have hn : qe a b ≠ 0 := by omega
  have hz : ((weq b 0) == (qe a b == 30)) = true := by rw [he, weq0_f i2 h]; rfl
  have e0 : tI (W a) = a := tI_in i1
  have e1 : tI (W b) = b := tI_in i2
  have R := QNL_run a b
  rw [e0, e1] at R
  simp only [qv_e nq hn] at R
  refine gives_of_run mo R (ps_cons (P2_W _ _) (ps_cons (P2_W _ _) (ps_cons (P2_W _ _) (ps_cons (by rw [he]; rfl) (ps_cons (by simp) (ps_cons (weq_self rfl) (ps_cons hz (ps_cons trivial ps_nil)))))))) ?_
  rfl
theorem QuotNear_all {a b : Int} (i1 : InR a) (i2 : InR b) : Gives P 5 #[W a, W b] (.bool true) := by
  by_cases h : b = 0
  · exact QNZ_leaf a b i1 i2 h
  by_cases hl : a = -HH ∨ b = -HH
  · exact QNL_leaf a b i1 i2 h hl
  have ha : Sm a := by unfold InR Sm at *; omega
  have hb : Sm b := by unfold InR Sm at *; omega
  cases hq : weq (nq a b) (fq a b) with
  | true => exact QN0_leaf a b ha hb h hq
  | false =>
    refine QN1_leaf a b ha hb h hq (weq_self ?_)
    have hne : nq a b ≠ fq a b := fun e => by rw [weq_self e] at hq; cases hq
    unfold nq at hne ⊢
    split at hne
    · rename_i hc
      rw [if_pos hc]
      unfold cq
      rw [if_neg (nc_rest ha hb h (by omega))]
    · exact absurd rfl hne
theorem QT0_run (a b : Int) : runF P ELn 2 6 [W a, W b] (.b false :: (.b false :: (.b false :: (.b true :: (.b true :: (.b true :: (.b true :: (.b true :: (.b true :: (.b true :: (.b true :: (.b true :: (.b true :: (.b true :: (.b true :: []))))))))))))))) =
  some (.bool true,
    [(weq a (-57896044618658097711785492504343953926634992332820282019728792003956564819968)) = false,
     (weq b (-57896044618658097711785492504343953926634992332820282019728792003956564819968)) = false,
     (weq b 0) = false,
     P1 [W a],
     P1 [W b],
     P2 [W a, W b],
     P2 [W (-tI (W a)), W (-tI (W b))],
     P2 [W a, W b],
     P2 [W (-tI (W a)), W b],
     P1 [W (qv fq (tI (W (-tI (W a)))) (tI (W b)))],
     ofP [.int .i64 1],
     P2 [W a, W 1],
     P2 [W b, W b],
     P2 [W b, W b],
     (qe (tI (W a)) (tI (W b)) == 0) = true,
     (qe (tI (W (-tI (W a)))) (tI (W (-tI (W b)))) == 0) = true,
     (qe (tI (W a)) (tI (W b)) == 0) = true,
     (qe (tI (W (-tI (W a)))) (tI (W b)) == 0) = true,
     (qe (tI (W a)) (tI (W 1)) == 0) = true,
     (qe (tI (W b)) (tI (W b)) == 0) = true,
     (qe (tI (W b)) (tI (W b)) == 0) = true,
     (weq (qv fq (tI (W a)) (tI (W b))) (qv fq (tI (W (-tI (W a)))) (tI (W (-tI (W b)))))) = true,
     (weq (qv cq (tI (W a)) (tI (W b))) (-tI (W (qv fq (tI (W (-tI (W a)))) (tI (W b)))))) = true,
     (weq (qv fq (tI (W a)) (tI (W 1))) a) = true,
     ofP [.int .i64 1],
     (weq (qv nq (tI (W b)) (tI (W b))) 1) = true,
     (weq (qv fr (tI (W b)) (tI (W b))) 0) = true,
     noP []]) := by kernel_rfl
theorem QT0_leaf (a b : Int) (ha : Sm a) (hb : Sm b) (h : b ≠ 0) : Gives P 6 #[W a, W b] (.bool true) := by
  have hH : HH = 57896044618658097711785492504343953926634992332820282019728792003956564819968 := rfl
  have i1 : InR a := inR_of ha
  have i2 : InR b := inR_of hb
  obtain ⟨f0, f1, f2, f3, f4⟩ := fl_facts ha hb h
  have he := qe_ok ha hb h
  have he1 := qe_ok (sm_neg ha) hb h
  have he2 := qe_ok ha (sm_neg hb) (neg_nz h)
  have he3 := qe_ok (sm_neg ha) (sm_neg hb) (neg_nz h)
  have hN := nq_in ha hb h
  have hS1 : Sm 1 := by unfold Sm; decide
  have he4 := qe_ok ha hS1 (show (1 : Int) ≠ 0 by decide)
  have he5 := qe_ok hb hb h
  obtain ⟨w1, w2, w3⟩ := own h
  have w4 := (own (b := 1) (by decide)).2.2
  have e0 : tI (W a) = a := tI_in i1
  have e1 : tI (W b) = b := tI_in i2
  have e2 : tI (W (-a)) = (-a) := tI_in (inR_of (sm_neg ha))
  have e3 : tI (W (-b)) = (-b) := tI_in (inR_of (sm_neg hb))
  have e4 : tI (W 1) = 1 := tI_in (by unfold InR; decide)
  have e5 : tI (W (qv fq ((-a)) b)) = fq (-a) b := tI_qv fq (sm_neg ha) hb h (fl_facts (sm_neg ha) hb h).2.2.2.1
  have R := QT0_run a b
  rw [e0, e1, e2, e3, e4, e5] at R
  simp only [qv_ok fq ha hb h, qv_ok fq (sm_neg ha) (sm_neg hb) (neg_nz h), qv_ok cq ha hb h, qv_ok fq ha hS1 (show (1 : Int) ≠ 0 by decide), qv_ok nq hb hb h, qv_ok fr hb hb h] at R
  refine gives_of_run mo R (ps_cons (nlt ha) (ps_cons (nlt hb) (ps_cons (weq0_f i2 h) (ps_cons (P1_W _) (ps_cons (P1_W _) (ps_cons (P2_W _ _) (ps_cons (P2_W _ _) (ps_cons (P2_W _ _) (ps_cons (P2_W _ _) (ps_cons (P1_W _) (ps_cons ⟨by decide, by decide⟩ (ps_cons (P2_W _ _) (ps_cons (P2_W _ _) (ps_cons (P2_W _ _) (ps_cons (by rw [he]; rfl) (ps_cons (by rw [he3]; rfl) (ps_cons (by rw [he]; rfl) (ps_cons (by rw [he1]; rfl) (ps_cons (by rw [he4]; rfl) (ps_cons (by rw [he5]; rfl) (ps_cons (by rw [he5]; rfl) (ps_cons (weq_self (fq_tt h).1.symm) (ps_cons (weq_self (cq_turn h)) (ps_cons (weq_self (by unfold fq; rw [if_pos (by decide), Int.ediv_one])) (ps_cons ⟨by decide, by decide⟩ (ps_cons (weq_self w2) (ps_cons (weq_self w1) (ps_cons trivial ps_nil)))))))))))))))))))))))))))) ?_
  rfl
theorem QTA_run (a b : Int) : runF P ELn 2 6 [W a, W b] (.b true :: []) =
  some (.bool true,
    [(weq a (-57896044618658097711785492504343953926634992332820282019728792003956564819968)) = true,
     noP []]) := by kernel_rfl
theorem QTA_leaf (a b : Int) (_i1 : InR a) (_i2 : InR b) (hl : a = -57896044618658097711785492504343953926634992332820282019728792003956564819968) : Gives P 6 #[W a, W b] (.bool true) := by
  have R := QTA_run a b
  refine gives_of_run mo R (ps_cons (weq_self hl) (ps_cons trivial ps_nil)) ?_
  rfl
theorem QTB_run (a b : Int) : runF P ELn 2 6 [W a, W b] (.b false :: (.b true :: [])) =
  some (.bool true,
    [(weq a (-57896044618658097711785492504343953926634992332820282019728792003956564819968)) = false,
     (weq b (-57896044618658097711785492504343953926634992332820282019728792003956564819968)) = true,
     noP []]) := by kernel_rfl
theorem QTB_leaf (a b : Int) (i1 : InR a) (_i2 : InR b) (h1 : a ≠ -57896044618658097711785492504343953926634992332820282019728792003956564819968) (hl : b = -57896044618658097711785492504343953926634992332820282019728792003956564819968) : Gives P 6 #[W a, W b] (.bool true) := by
  have R := QTB_run a b
  refine gives_of_run mo R (ps_cons (nwn i1 (by unfold InR; decide) h1) (ps_cons (weq_self hl) (ps_cons trivial ps_nil))) ?_
  rfl
theorem QTZ_run (a b : Int) : runF P ELn 2 6 [W a, W b] (.b false :: (.b false :: (.b true :: []))) =
  some (.bool true,
    [(weq a (-57896044618658097711785492504343953926634992332820282019728792003956564819968)) = false,
     (weq b (-57896044618658097711785492504343953926634992332820282019728792003956564819968)) = false,
     (weq b 0) = true,
     noP []]) := by kernel_rfl
theorem QTZ_leaf (a b : Int) (i1 : InR a) (i2 : InR b) (h1 : a ≠ -57896044618658097711785492504343953926634992332820282019728792003956564819968) (h2 : b ≠ -57896044618658097711785492504343953926634992332820282019728792003956564819968) (hl : b = 0) : Gives P 6 #[W a, W b] (.bool true) := by
  have R := QTZ_run a b
  refine gives_of_run mo R (ps_cons (nwn i1 (by unfold InR; decide) h1) (ps_cons (nwn i2 (by unfold InR; decide) h2) (ps_cons (weq_self hl) (ps_cons trivial ps_nil)))) ?_
  rfl
theorem QuotTurns_all {a b : Int} (i1 : InR a) (i2 : InR b) : Gives P 6 #[W a, W b] (.bool true) := by
  by_cases h1 : a = -HH
  · exact QTA_leaf a b i1 i2 h1
  by_cases h2 : b = -HH
  · exact QTB_leaf a b i1 i2 h1 h2
  by_cases h : b = 0
  · exact QTZ_leaf a b i1 i2 h1 h2 h
  have ha : Sm a := by unfold InR Sm at *; omega
  have hb : Sm b := by unfold InR Sm at *; omega
  exact QT0_leaf a b ha hb h
theorem QI0_run (a b c : Int) : runF P ELn 1 7 [.int .i64 a, .int .i64 b, .int .i64 c] (.b true :: (.b true :: (.b true :: (.b true :: [])))) =
  some (.bool true,
    [intsP [.int .i64 a, .int .i64 b, .int .i64 c],
     ofP [.int .i64 a],
     ofP [.int .i64 b],
     P2 [W a, W b],
     ofP [.int .i64 c],
     P2 [W (tI (W a) * tI (W b)), W c],
     (c == 0) = true,
     (ie a b c == 30) = true,
     (qe (tI (W (tI (W a) * tI (W b)))) (tI (W c)) == 30) = true,
     (iv a b c == 0) = true,
     noP []]) := by kernel_rfl
theorem QI0_leaf (a b c : Int) (ha : I64 a) (hb : I64 b) (hc : I64 c) (h : c = 0) : Gives P 7 #[.int .i64 a, .int .i64 b, .int .i64 c] (.bool true) := by
  have h1 := smmul ha hb
  have h2 := sm64 hc
  have he : qe (a * b) c = 30 := by unfold qe; rw [if_pos h]
  have hie : ie a b c = 30 := by unfold ie; rw [if_pos h]
  have hiv : iv a b c = 0 := by unfold iv; rw [hie]; rfl
  have hv : InR (qv nq (a * b) c) := by unfold qv; rw [he, if_neg (by decide)]; unfold InR; decide
  have e0 : tI (W a) = a := tI_in (inR64 ha)
  have e1 : tI (W b) = b := tI_in (inR64 hb)
  have e2 : tI (W (a * b)) = a * b := tI_in (mul64_in ha hb)
  have e3 : tI (W c) = c := tI_in (inR64 hc)
  have R := QI0_run a b c
  rw [e0, e1, e2, e3] at R
  refine gives_of_run mo R (ps_cons ⟨ha, hb, hc⟩ (ps_cons ha (ps_cons hb (ps_cons (P2_W _ _) (ps_cons hc (ps_cons (P2_W _ _) (ps_cons (by simp [h]) (ps_cons (by rw [hie]; rfl) (ps_cons (by rw [he]; rfl) (ps_cons (by rw [hiv]; rfl) (ps_cons trivial ps_nil))))))))))) ?_
  rfl
theorem QI1_run (a b c : Int) : runF P ELn 1 7 [.int .i64 a, .int .i64 b, .int .i64 c] (.b false :: (.b false :: (.b false :: (.b false :: (.lit :: (.b true :: (.b false :: []))))))) =
  some (.bool true,
    [intsP [.int .i64 a, .int .i64 b, .int .i64 c],
     ofP [.int .i64 a],
     ofP [.int .i64 b],
     P2 [W a, W b],
     ofP [.int .i64 c],
     P2 [W (tI (W a) * tI (W b)), W c],
     (c == 0) = false,
     P1 [W (qv nq (tI (W (tI (W a) * tI (W b)))) (tI (W c)))],
     (qe (tI (W (tI (W a) * tI (W b)))) (tI (W c)) != 0) = false,
     ((ie a b c == 0) != (i64B (tI (W (qv nq (tI (W (tI (W a) * tI (W b)))) (tI (W c))))))) = false,
     (ie a b c != 0) = false,
     (iv a b c == (if i64B (tI (W (qv nq (tI (W (tI (W a) * tI (W b)))) (tI (W c))))) then tI (W (qv nq (tI (W (tI (W a) * tI (W b)))) (tI (W c)))) else 0)) = true,
     (!(i64B (tI (W (qv nq (tI (W (tI (W a) * tI (W b)))) (tI (W c))))))) = false,
     ofP [.int .i64 c],
     ofP [.int .i64 (iv a b c)],
     nearP [W (tI (W a) * tI (W b)), W c, W (iv a b c)],
     noP []]) := by kernel_rfl
theorem QI1_leaf (a b c : Int) (ha : I64 a) (hb : I64 b) (hc : I64 c) (h : c ≠ 0) (hi : i64B (qv nq (a * b) c) = true) : Gives P 7 #[.int .i64 a, .int .i64 b, .int .i64 c] (.bool true) := by
  have h1 := smmul ha hb
  have h2 := sm64 hc
  have he := qe_ok h1 h2 h
  have ev := qv_ok nq h1 h2 h
  have hv : InR (qv nq (a * b) c) := by rw [ev]; exact nq_in h1 h2 h
  have hie : ie a b c = 0 := by unfold ie; rw [if_neg h, ← ev, hi]; rfl
  have hiv : iv a b c = qv nq (a * b) c := by unfold iv; rw [hie, ev]; rfl
  have hnq : iv a b c = nq (a * b) c := by rw [hiv, ev]
  have hj : I64 (iv a b c) := by rw [hiv]; exact i64B_in hi
  have e0 : tI (W a) = a := tI_in (inR64 ha)
  have e1 : tI (W b) = b := tI_in (inR64 hb)
  have e2 : tI (W (a * b)) = a * b := tI_in (mul64_in ha hb)
  have e3 : tI (W c) = c := tI_in (inR64 hc)
  have e4 : tI (W (qv nq ((a * b)) c)) = qv nq (a * b) c := tI_in hv
  have R := QI1_run a b c
  rw [e0, e1, e2, e3, e4] at R
  refine gives_of_run mo R (ps_cons ⟨ha, hb, hc⟩ (ps_cons ha (ps_cons hb (ps_cons (P2_W _ _) (ps_cons hc (ps_cons (P2_W _ _) (ps_cons (by simp [h]) (ps_cons (P1_W _) (ps_cons (by rw [he]; rfl) (ps_cons (by rw [hie, hi]; rfl) (ps_cons (by rw [hie]; rfl) (ps_cons (by rw [hi]; simp [hiv]) (ps_cons (by rw [hi]; rfl) (ps_cons hc (ps_cons hj (ps_cons (near_at h1 h2 h hnq) (ps_cons trivial ps_nil))))))))))))))))) ?_
  rfl
theorem QI2_run (a b c : Int) : runF P ELn 1 7 [.int .i64 a, .int .i64 b, .int .i64 c] (.b false :: (.b false :: (.b false :: (.b true :: (.b false :: (.b true :: (.b true :: []))))))) =
  some (.bool true,
    [intsP [.int .i64 a, .int .i64 b, .int .i64 c],
     ofP [.int .i64 a],
     ofP [.int .i64 b],
     P2 [W a, W b],
     ofP [.int .i64 c],
     P2 [W (tI (W a) * tI (W b)), W c],
     (c == 0) = false,
     P1 [W (qv nq (tI (W (tI (W a) * tI (W b)))) (tI (W c)))],
     (qe (tI (W (tI (W a) * tI (W b)))) (tI (W c)) != 0) = false,
     ((ie a b c == 0) != (i64B (tI (W (qv nq (tI (W (tI (W a) * tI (W b)))) (tI (W c))))))) = false,
     (ie a b c != 0) = true,
     (ie a b c != 20) = false,
     (iv a b c == (if i64B (tI (W (qv nq (tI (W (tI (W a) * tI (W b)))) (tI (W c))))) then tI (W (qv nq (tI (W (tI (W a) * tI (W b)))) (tI (W c)))) else 0)) = true,
     (!(i64B (tI (W (qv nq (tI (W (tI (W a) * tI (W b)))) (tI (W c))))))) = true,
     noP []]) := by kernel_rfl
theorem QI2_leaf (a b c : Int) (ha : I64 a) (hb : I64 b) (hc : I64 c) (h : c ≠ 0) (hi : i64B (qv nq (a * b) c) = false) : Gives P 7 #[.int .i64 a, .int .i64 b, .int .i64 c] (.bool true) := by
  have h1 := smmul ha hb
  have h2 := sm64 hc
  have he := qe_ok h1 h2 h
  have ev := qv_ok nq h1 h2 h
  have hv : InR (qv nq (a * b) c) := by rw [ev]; exact nq_in h1 h2 h
  have hie : ie a b c = 20 := by unfold ie; rw [if_neg h, ← ev, hi]; rfl
  have hiv : iv a b c = 0 := by unfold iv; rw [hie]; rfl
  have e0 : tI (W a) = a := tI_in (inR64 ha)
  have e1 : tI (W b) = b := tI_in (inR64 hb)
  have e2 : tI (W (a * b)) = a * b := tI_in (mul64_in ha hb)
  have e3 : tI (W c) = c := tI_in (inR64 hc)
  have e4 : tI (W (qv nq ((a * b)) c)) = qv nq (a * b) c := tI_in hv
  have R := QI2_run a b c
  rw [e0, e1, e2, e3, e4] at R
  refine gives_of_run mo R (ps_cons ⟨ha, hb, hc⟩ (ps_cons ha (ps_cons hb (ps_cons (P2_W _ _) (ps_cons hc (ps_cons (P2_W _ _) (ps_cons (by simp [h]) (ps_cons (P1_W _) (ps_cons (by rw [he]; rfl) (ps_cons (by rw [hie, hi]; rfl) (ps_cons (by rw [hie]; rfl) (ps_cons (by rw [hie]; rfl) (ps_cons (by rw [hi]; simp [hiv]) (ps_cons (by rw [hi]; rfl) (ps_cons trivial ps_nil))))))))))))))) ?_
  rfl
theorem QuotInts_all {a b c : Int} (ha : I64 a) (hb : I64 b) (hc : I64 c) : Gives P 7 #[.int .i64 a, .int .i64 b, .int .i64 c] (.bool true) := by
  by_cases h : c = 0
  · exact QI0_leaf a b c ha hb hc h
  cases hi : i64B (qv nq (a * b) c) with
  | true => exact QI1_leaf a b c ha hb hc h hi
  | false => exact QI2_leaf a b c ha hb hc h hi
end Go.Qt
