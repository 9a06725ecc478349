/-
  Contracts of gyreref03, second part: above, floor, Floor, Rest, Ceil, Near, Ints. Printed by ref3b.py.
-/
import Derived.Test.YtjfcndiodbaejaaDoorRef3A
set_option maxRecDepth 100000
namespace Go.R3
open Go Go.RowKit Go.Sx Go.Nm Go.Wd Go.Qt Go.Proofs

noncomputable def Y1 : Env P := ⟨plain :: Z1C, [], 10, []⟩
def abP : List Value → Prop
  | [x, y] => IsW x ∧ IsW y ∧ Sm (tI x) ∧ Sm (tI y) ∧ 0 < tI y
  | _ => False
theorem ge_t {x : Int} (h : 0 ≤ x) : (decide (cmp3 x 0 ≥ 0)) = true := decide_eq_true (by unfold cmp3; omega)
theorem ge_f {x : Int} (h : x < 0) : (decide (cmp3 x 0 ≥ 0)) = false := decide_eq_false (by unfold cmp3; omega)
theorem gt_t {x : Int} (h : 0 < x) : (decide (cmp3 x 0 > 0)) = true := decide_eq_true (by unfold cmp3; omega)
theorem gt_f {x : Int} (h : x < 0) : (decide (cmp3 x 0 > 0)) = false := decide_eq_false (by unfold cmp3; omega)
theorem ab0_run (a b : Int) : runF P Y1 1 110 [W a, W b] (.b true :: []) =
  some (.tuple #[W (tI (W a) / tI (W b)), W (tI (W a) % tI (W b))],
    [P1 [W a],
     (decide (cmp3 (tI (W a)) 0 ≥ 0)) = true,
     plainP [W a, W b]]) := by kernel_rfl
theorem ab0_leaf (a b : Int) (ha : Sm a) (hb : Sm b) (h1 : 0 < b) (h2 : 0 ≤ a) : Gives P 110 #[W a, W b] (.tuple #[W (fq a b), W (fr a b)]) := by
  unfold Sm at ha hb
  have hH : HH = 57896044618658097711785492504343953926634992332820282019728792003956564819968 := rfl
  obtain ⟨d0, d1, d2, d3, d4⟩ := div_bound (a := a) (b := b) h2 h1
  have e0 : tI (W a) = a := tI_in (by unfold InR; omega)
  have e1 : tI (W b) = b := tI_in (by unfold InR; omega)
  have R := ab0_run a b
  rw [e0, e1] at R
  refine gives_of_run mo R (ps_cons (P1_W _) (ps_cons (ge_t (by omega)) (ps_cons (plain_at (by unfold InR; omega) (by unfold InR; omega) (by omega) (by omega)) ps_nil))) ?_
  unfold fq fr
  rw [if_pos h1, if_pos h1]
theorem ab1_run (a b : Int) : runF P Y1 1 110 [W a, W b] (.b false :: []) =
  some (.tuple #[W (tI (W (-tI (W (tI (W (tI (W (-tI (W a))) - tI (W 1))) / tI (W b))))) - tI (W 1)), W (tI (W (tI (W b) - tI (W 1))) - tI (W (tI (W (tI (W (-tI (W a))) - tI (W 1))) % tI (W b))))],
    [P1 [W a],
     (decide (cmp3 (tI (W a)) 0 ≥ 0)) = false,
     P1 [W a],
     noP [],
     P2 [W (-tI (W a)), W 1],
     plainP [W (tI (W (-tI (W a))) - tI (W 1)), W b],
     P1 [W (tI (W (tI (W (-tI (W a))) - tI (W 1))) / tI (W b))],
     noP [],
     P2 [W (-tI (W (tI (W (tI (W (-tI (W a))) - tI (W 1))) / tI (W b)))), W 1],
     noP [],
     P2 [W b, W 1],
     P2 [W (tI (W b) - tI (W 1)), W (tI (W (tI (W (-tI (W a))) - tI (W 1))) % tI (W b))]]) := by kernel_rfl
theorem ab1_leaf (a b : Int) (ha : Sm a) (hb : Sm b) (h1 : 0 < b) (h2 : a < 0) : Gives P 110 #[W a, W b] (.tuple #[W (fq a b), W (fr a b)]) := by
  unfold Sm at ha hb
  have hH : HH = 57896044618658097711785492504343953926634992332820282019728792003956564819968 := rfl
  have ed : -(a + 1) = -a - 1 := by omega
  obtain ⟨d0, d1, d2, d3, d4⟩ := div_bound (a := -a - 1) (b := b) (by omega) h1
  obtain ⟨g1, g2⟩ := neg_div h1 h2
  rw [ed] at g1 g2
  have e0 : tI (W a) = a := tI_in (by unfold InR; omega)
  have e1 : tI (W (-a)) = (-a) := tI_in (by unfold InR; omega)
  have e2 : tI (W 1) = 1 := tI_in (by unfold InR; omega)
  have e3 : tI (W ((-a) - 1)) = (-a) - 1 := tI_in (by unfold InR; omega)
  have e4 : tI (W b) = b := tI_in (by unfold InR; omega)
  have e5 : tI (W (((-a) - 1) / b)) = ((-a) - 1) / b := tI_in (by unfold InR; omega)
  have e6 : tI (W (-(((-a) - 1) / b))) = (-(((-a) - 1) / b)) := tI_in (by unfold InR; omega)
  have e7 : tI (W (b - 1)) = b - 1 := tI_in (by unfold InR; omega)
  have e8 : tI (W (((-a) - 1) % b)) = ((-a) - 1) % b := tI_in (by unfold InR; omega)
  have R := ab1_run a b
  rw [e0, e1, e2, e3, e4, e5, e6, e7, e8] at R
  refine gives_of_run mo R (ps_cons (P1_W _) (ps_cons (ge_f (by omega)) (ps_cons (P1_W _) (ps_cons trivial (ps_cons (P2_W _ _) (ps_cons (plain_at (by unfold InR; omega) (by unfold InR; omega) (by omega) (by omega)) (ps_cons (P1_W _) (ps_cons trivial (ps_cons (P2_W _ _) (ps_cons trivial (ps_cons (P2_W _ _) (ps_cons (P2_W _ _) ps_nil)))))))))))) ?_
  unfold fq fr
  rw [if_pos h1, if_pos h1, g1, g2]
theorem above_gives (args : List Value) (h : abP args) : Gives P 110 args.toArray (floorV args) := by
  unfold abP at h
  split at h
  · rename_i x y
    obtain ⟨hx, hy, h1, h2, h3⟩ := h
    obtain ⟨ex, rx⟩ := isW_in hx
    obtain ⟨ey, ry⟩ := isW_in hy
    have key : Gives P 110 #[W (tI x), W (tI y)] (.tuple #[W (fq (tI x) (tI y)), W (fr (tI x) (tI y))]) := by
      by_cases ha : 0 ≤ tI x
      · exact ab0_leaf _ _ h1 h2 h3 ha
      · exact ab1_leaf _ _ h1 h2 h3 (by omega)
    rw [← ex, ← ey] at key
    exact key
  · exact h.elim
noncomputable def above : Ctr P := ⟨110, abP, floorV, above_gives⟩
noncomputable def Y2 : Env P := ⟨above :: Z1C, [], 10, []⟩
theorem ab_at {a b : Int} (ha : Sm a) (hb : Sm b) (h : 0 < b) : abP [W a, W b] := ⟨⟨_, rfl⟩, ⟨_, rfl⟩, by rw [tI_in (inR_of ha)]; exact ha, by rw [tI_in (inR_of hb)]; exact hb, by rw [tI_in (inR_of hb)]; exact h⟩
theorem flz_run (a b : Int) : runF P Y2 1 80 [W a, W b] (.b true :: []) =
  some (.tuple #[W 0, W 0, .int .i64 30],
    [(weq b 0) = true]) := by kernel_rfl
theorem flz_leaf (a b : Int) (_i1 : InR a) (_i2 : InR b) (h : b = 0) : Gives P 80 #[W a, W b] (.tuple #[W (qv fq a b), W (qv fr a b), .int .i64 (qe a b)]) := by
  have R := flz_run a b
  refine gives_of_run mo R (ps_cons (weq_self h) ps_nil) ?_
  have e : qe a b = 30 := by unfold qe; rw [if_pos h]
  have e2 : qe a b ≠ 0 := by omega
  rw [qv_e fq e2, qv_e fr e2, e]
theorem fla_run (a b : Int) : runF P Y2 1 80 [W a, W b] (.b false :: (.b true :: [])) =
  some (.tuple #[W 0, W 0, .int .i64 20],
    [(weq b 0) = false,
     noP [],
     (weq a (-57896044618658097711785492504343953926634992332820282019728792003956564819968)) = true]) := by kernel_rfl
theorem fla_leaf (a b : Int) (_i1 : InR a) (i2 : InR b) (h : b ≠ 0) (hl : a = -57896044618658097711785492504343953926634992332820282019728792003956564819968) : Gives P 80 #[W a, W b] (.tuple #[W (qv fq a b), W (qv fr a b), .int .i64 (qe a b)]) := by
  have R := fla_run a b
  refine gives_of_run mo R (ps_cons (weq0_f i2 h) (ps_cons trivial (ps_cons (weq_self hl) ps_nil))) ?_
  have e : qe a b = 20 := qe_l h (.inl hl)
  have e2 : qe a b ≠ 0 := by omega
  rw [qv_e fq e2, qv_e fr e2, e]
theorem flb_run (a b : Int) : runF P Y2 1 80 [W a, W b] (.b false :: (.b false :: (.b true :: []))) =
  some (.tuple #[W 0, W 0, .int .i64 20],
    [(weq b 0) = false,
     noP [],
     (weq a (-57896044618658097711785492504343953926634992332820282019728792003956564819968)) = false,
     noP [],
     (weq b (-57896044618658097711785492504343953926634992332820282019728792003956564819968)) = true]) := by kernel_rfl
theorem flb_leaf (a b : Int) (i1 : InR a) (i2 : InR b) (h : b ≠ 0) (h1 : a ≠ -57896044618658097711785492504343953926634992332820282019728792003956564819968) (hl : b = -57896044618658097711785492504343953926634992332820282019728792003956564819968) : Gives P 80 #[W a, W b] (.tuple #[W (qv fq a b), W (qv fr a b), .int .i64 (qe a b)]) := by
  have R := flb_run a b
  refine gives_of_run mo R (ps_cons (weq0_f i2 h) (ps_cons trivial (ps_cons (nwn i1 (by unfold InR; decide) h1) (ps_cons trivial (ps_cons (weq_self hl) ps_nil))))) ?_
  have e : qe a b = 20 := qe_l h (.inr hl)
  have e2 : qe a b ≠ 0 := by omega
  rw [qv_e fq e2, qv_e fr e2, e]
theorem flp_run (a b : Int) : runF P Y2 1 80 [W a, W b] (.b false :: (.b false :: (.b false :: (.b true :: [])))) =
  some (.tuple #[W (fq (tI (W a)) (tI (W b))), W (fr (tI (W a)) (tI (W b))), .int .i64 0],
    [(weq b 0) = false,
     noP [],
     (weq a (-57896044618658097711785492504343953926634992332820282019728792003956564819968)) = false,
     noP [],
     (weq b (-57896044618658097711785492504343953926634992332820282019728792003956564819968)) = false,
     P1 [W b],
     (decide (cmp3 (tI (W b)) 0 > 0)) = true,
     abP [W a, W b]]) := by kernel_rfl
theorem flp_leaf (a b : Int) (i1 : InR a) (i2 : InR b) (ha : Sm a) (hb : Sm b) (h : b ≠ 0) (h3 : 0 < b) : Gives P 80 #[W a, W b] (.tuple #[W (qv fq a b), W (qv fr a b), .int .i64 (qe a b)]) := by
  have h1 : a ≠ -57896044618658097711785492504343953926634992332820282019728792003956564819968 := by unfold Sm at ha; simp only [HH] at ha; omega
  have h2 : b ≠ -57896044618658097711785492504343953926634992332820282019728792003956564819968 := by unfold Sm at hb; simp only [HH] at hb; omega
  have e0 : tI (W b) = b := tI_in i2
  have e1 : tI (W a) = a := tI_in i1
  have R := flp_run a b
  rw [e0, e1] at R
  refine gives_of_run mo R (ps_cons (weq0_f i2 h) (ps_cons trivial (ps_cons (nwn i1 (by unfold InR; decide) h1) (ps_cons trivial (ps_cons (nwn i2 (by unfold InR; decide) h2) (ps_cons (P1_W _) (ps_cons (gt_t h3) (ps_cons (ab_at ha hb h3) ps_nil)))))))) ?_
  rw [qv_ok fq ha hb h, qv_ok fr ha hb h, qe_ok ha hb h]
theorem fln_run (a b : Int) : runF P Y2 1 80 [W a, W b] (.b false :: (.b false :: (.b false :: (.b false :: [])))) =
  some (.tuple #[W (fq (tI (W (-tI (W a)))) (tI (W (-tI (W b))))), W (-tI (W (fr (tI (W (-tI (W a)))) (tI (W (-tI (W b))))))), .int .i64 0],
    [(weq b 0) = false,
     noP [],
     (weq a (-57896044618658097711785492504343953926634992332820282019728792003956564819968)) = false,
     noP [],
     (weq b (-57896044618658097711785492504343953926634992332820282019728792003956564819968)) = false,
     P1 [W b],
     (decide (cmp3 (tI (W b)) 0 > 0)) = false,
     P1 [W a],
     P1 [W b],
     abP [W (-tI (W a)), W (-tI (W b))],
     P1 [W (fr (tI (W (-tI (W a)))) (tI (W (-tI (W b)))))]]) := by kernel_rfl
theorem fln_leaf (a b : Int) (i1 : InR a) (i2 : InR b) (ha : Sm a) (hb : Sm b) (h : b ≠ 0) (h3 : b < 0) : Gives P 80 #[W a, W b] (.tuple #[W (qv fq a b), W (qv fr a b), .int .i64 (qe a b)]) := by
  have h1 : a ≠ -57896044618658097711785492504343953926634992332820282019728792003956564819968 := by unfold Sm at ha; simp only [HH] at ha; omega
  have h2 : b ≠ -57896044618658097711785492504343953926634992332820282019728792003956564819968 := by unfold Sm at hb; simp only [HH] at hb; omega
  have e0 : tI (W b) = b := tI_in i2
  have e1 : tI (W a) = a := tI_in i1
  have e2 : tI (W (-a)) = (-a) := tI_in (inR_of (sm_neg ha))
  have e3 : tI (W (-b)) = (-b) := tI_in (inR_of (sm_neg hb))
  have e4 : tI (W (fr ((-a)) ((-b)))) = fr ((-a)) ((-b)) := tI_in (fl_facts (sm_neg ha) (sm_neg hb) (neg_nz h)).2.2.2.2
  have R := fln_run a b
  rw [e0, e1, e2, e3, e4] at R
  refine gives_of_run mo R (ps_cons (weq0_f i2 h) (ps_cons trivial (ps_cons (nwn i1 (by unfold InR; decide) h1) (ps_cons trivial (ps_cons (nwn i2 (by unfold InR; decide) h2) (ps_cons (P1_W _) (ps_cons (gt_f h3) (ps_cons (P1_W _) (ps_cons (P1_W _) (ps_cons (ab_at (sm_neg ha) (sm_neg hb) (by omega)) (ps_cons (P1_W _) ps_nil))))))))))) ?_
  rw [qv_ok fq ha hb h, qv_ok fr ha hb h, qe_ok ha hb h, (fq_tt h).1, (fq_tt (a := a) h).2, Int.neg_neg]
def flV : List Value → Value
  | [x, y] => .tuple #[W (qv fq (tI x) (tI y)), W (qv fr (tI x) (tI y)), .int .i64 (qe (tI x) (tI y))]
  | _ => undef
theorem floor_gives (args : List Value) (h : P2 args) : Gives P 80 args.toArray (flV args) := by
  unfold P2 at h
  split at h
  · rename_i x y
    obtain ⟨hx, hy⟩ := h
    obtain ⟨ex, rx⟩ := isW_in hx
    obtain ⟨ey, ry⟩ := isW_in hy
    have key : Gives P 80 #[W (tI x), W (tI y)] (flV [x, y]) := by
      by_cases h : tI y = 0
      · exact flz_leaf _ _ rx ry h
      by_cases h1 : tI x = -HH
      · exact fla_leaf _ _ rx ry h h1
      by_cases h2 : tI y = -HH
      · exact flb_leaf _ _ rx ry h h1 h2
      have ha : Sm (tI x) := by unfold InR Sm at *; omega
      have hb : Sm (tI y) := by unfold InR Sm at *; omega
      by_cases h3 : 0 < tI y
      · exact flp_leaf _ _ rx ry ha hb h h3
      · exact fln_leaf _ _ rx ry ha hb h (by omega)
    rw [← ex, ← ey] at key
    exact key
  · exact h.elim
noncomputable def floor : Ctr P := ⟨80, P2, flV, floor_gives⟩
noncomputable def Y3 : Env P := ⟨floor :: Z1C, [], 10, []⟩
theorem Floor_run (a b : Int) : runF P Y3 1 47 [W a, W b] [] =
  some (.tuple #[W (qv fq (tI (W a)) (tI (W b))), .int .i64 (qe (tI (W a)) (tI (W b)))],
    [P2 [W a, W b]]) := by kernel_rfl
theorem Floor_leaf (a b : Int) (i1 : InR a) (i2 : InR b) : Gives P 47 #[W a, W b] (.tuple #[W (qv fq a b), .int .i64 (qe a b)]) := by
  have e0 : tI (W a) = a := tI_in i1
  have e1 : tI (W b) = b := tI_in i2
  have R := Floor_run a b
  rw [e0, e1] at R
  refine gives_of_run mo R (ps_cons (P2_W _ _) ps_nil) ?_
  rfl
theorem CeilE_run (a b : Int) : runF P Y3 1 48 [W a, W b] (.b true :: []) =
  some (.tuple #[W (qv fq (tI (W a)) (tI (W b))), .int .i64 (qe (tI (W a)) (tI (W b)))],
    [P2 [W a, W b],
     (qe (tI (W a)) (tI (W b)) != 0) = true]) := by kernel_rfl
theorem CeilE_leaf (a b : Int) (i1 : InR a) (i2 : InR b) (he : (qe a b != 0) = true) : Gives P 48 #[W a, W b] (.tuple #[W (qv cq a b), .int .i64 (qe a b)]) := by
  have e0 : tI (W a) = a := tI_in i1
  have e1 : tI (W b) = b := tI_in i2
  have R := CeilE_run a b
  rw [e0, e1] at R
  refine gives_of_run mo R (ps_cons (P2_W _ _) (ps_cons he ps_nil)) ?_
  rw [qv_e fq (by simpa using he), qv_e cq (by simpa using he)]
theorem Ceil0_run (a b : Int) : runF P Y3 1 48 [W a, W b] (.b false :: (.b true :: [])) =
  some (.tuple #[W (qv fq (tI (W a)) (tI (W b))), .int .i64 (qe (tI (W a)) (tI (W b)))],
    [P2 [W a, W b],
     (qe (tI (W a)) (tI (W b)) != 0) = false,
     (weq (qv fr (tI (W a)) (tI (W b))) 0) = true]) := by kernel_rfl
theorem Ceil0_leaf (a b : Int) (ha : Sm a) (hb : Sm b) (h : b ≠ 0) (hr : fr a b = 0) : Gives P 48 #[W a, W b] (.tuple #[W (qv cq a b), .int .i64 (qe a b)]) := by
  have i1 : InR a := inR_of ha
  have i2 : InR b := inR_of hb
  obtain ⟨f0, f1, f2, f3, f4⟩ := fl_facts ha hb h
  have he := qe_ok ha hb h
  have e0 : tI (W a) = a := tI_in i1
  have e1 : tI (W b) = b := tI_in i2
  have R := Ceil0_run a b
  rw [e0, e1] at R
  simp only [qv_ok fq ha hb h, qv_ok fr ha hb h] at R
  refine gives_of_run mo R (ps_cons (P2_W _ _) (ps_cons (by rw [he]; rfl) (ps_cons (weq_self hr) ps_nil))) ?_
  rw [qv_ok cq ha hb h]
  unfold cq
  rw [if_pos hr]
theorem Ceil1_run (a b : Int) : runF P Y3 1 48 [W a, W b] (.b false :: (.b false :: [])) =
  some (.tuple #[W (tI (W (qv fq (tI (W a)) (tI (W b)))) + tI (W 1)), .int .i64 0],
    [P2 [W a, W b],
     (qe (tI (W a)) (tI (W b)) != 0) = false,
     (weq (qv fr (tI (W a)) (tI (W b))) 0) = false,
     noP [],
     P2 [W (qv fq (tI (W a)) (tI (W b))), W 1]]) := by kernel_rfl
theorem Ceil1_leaf (a b : Int) (ha : Sm a) (hb : Sm b) (h : b ≠ 0) (hr : fr a b ≠ 0) : Gives P 48 #[W a, W b] (.tuple #[W (qv cq a b), .int .i64 (qe a b)]) := by
  have i1 : InR a := inR_of ha
  have i2 : InR b := inR_of hb
  obtain ⟨f0, f1, f2, f3, f4⟩ := fl_facts ha hb h
  have he := qe_ok ha hb h
  have e0 : tI (W a) = a := tI_in i1
  have e1 : tI (W b) = b := tI_in i2
  have e2 : tI (W (qv fq a b)) = fq a b := tI_qv fq ha hb h f3
  have e3 : tI (W 1) = 1 := tI_in inR_1
  have R := Ceil1_run a b
  rw [e0, e1, e2, e3] at R
  simp only [qv_ok fq ha hb h, qv_ok fr ha hb h] at R
  refine gives_of_run mo R (ps_cons (P2_W _ _) (ps_cons (by rw [he]; rfl) (ps_cons (weq0_f f4 hr) (ps_cons trivial (ps_cons (P2_W _ _) ps_nil))))) ?_
  rw [qv_ok cq ha hb h, he]
  unfold cq
  rw [if_neg hr]
theorem nc_pos {a b : Int} (h : 0 < b) : nc a b = cmp3 (fr a b) (b - fr a b) := ncp h
theorem nc_neg {a b : Int} (h : b < 0) : nc a b = cmp3 (-fr a b) (-(b - fr a b)) := by
  unfold nc
  have e1 : cmp3 (-fr a b) (-(b - fr a b)) = -cmp3 (fr a b) (b - fr a b) := by unfold cmp3; omega
  have e2 : cmp3 b 0 = -1 := by unfold cmp3; omega
  rw [e1, e2]
  omega
theorem Floor_gives (args : List Value) (h : P2 args) : Gives P 47 args.toArray (quoV fq args) := by
  unfold P2 at h
  split at h
  · rename_i x y
    obtain ⟨hx, hy⟩ := h
    obtain ⟨ex, rx⟩ := isW_in hx
    obtain ⟨ey, ry⟩ := isW_in hy
    have key : Gives P 47 #[W (tI x), W (tI y)] (quoV fq [x, y]) := by
      exact Floor_leaf _ _ rx ry
    rw [← ex, ← ey] at key
    exact key
  · exact h.elim
noncomputable def cFloor : Ctr P := ⟨47, P2, quoV fq, Floor_gives⟩
theorem Ceil_gives (args : List Value) (h : P2 args) : Gives P 48 args.toArray (quoV cq args) := by
  unfold P2 at h
  split at h
  · rename_i x y
    obtain ⟨hx, hy⟩ := h
    obtain ⟨ex, rx⟩ := isW_in hx
    obtain ⟨ey, ry⟩ := isW_in hy
    have key : Gives P 48 #[W (tI x), W (tI y)] (quoV cq [x, y]) := by
      cases he : (qe (tI x) (tI y) != 0) with
      | true => exact CeilE_leaf _ _ rx ry he
      | false =>
        have hq : qe (tI x) (tI y) = 0 := by simpa using he
        have h : tI y ≠ 0 := by intro e; unfold qe at hq; rw [if_pos e] at hq; omega
        have h1 : ¬ (tI x = -HH ∨ tI y = -HH) := by intro e; rw [qe_l h e] at hq; omega
        have ha : Sm (tI x) := by unfold InR Sm at *; omega
        have hb : Sm (tI y) := by unfold InR Sm at *; omega
        by_cases hr : fr (tI x) (tI y) = 0
        · exact Ceil0_leaf _ _ ha hb h hr
        · exact Ceil1_leaf _ _ ha hb h hr
    rw [← ex, ← ey] at key
    exact key
  · exact h.elim
noncomputable def cCeil : Ctr P := ⟨48, P2, quoV cq, Ceil_gives⟩
noncomputable def Y4 : Env P := ⟨Rd.refC, [], 10, []⟩
noncomputable def ref3C : List (Ctr P) := [cFloor, cCeil]
end Go.R3
