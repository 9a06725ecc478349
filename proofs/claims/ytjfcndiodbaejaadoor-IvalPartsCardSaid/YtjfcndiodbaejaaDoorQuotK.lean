/-
  Plain arithmetic of floors, ceilings, nearest ones. Printed by lawq1.py.
-/
import Derived.Test.YtjfcndiodbaejaaDoorQuotJ
import Derived.Test.YtjfcndiodbaejaaDoorRefD
set_option maxRecDepth 100000
namespace Go.Qt
open Go Go.RowKit Go.Sx Go.Nm Go.Wd Go.Proofs

def noP : List Value → Prop
  | [] => True
  | _ => False
theorem i64B_in {n : Int} (h : i64B n = true) : I64 n := by unfold i64B at h; simp only [Bool.and_eq_true, decide_eq_true_eq] at h; exact h
theorem qv_ok (f : Int → Int → Int) {a b : Int} (ha : Sm a) (hb : Sm b) (h : b ≠ 0) : qv f a b = f a b := by unfold qv; rw [qe_ok ha hb h, if_pos rfl]
theorem cq_in {a b : Int} (ha : Sm a) (hb : Sm b) (h : b ≠ 0) : InR (cq a b) := by
  unfold cq
  split
  · exact (fl_facts ha hb h).2.2.2.1
  · rename_i hr
    exact up_in ha hb h hr
theorem tI_qv (f : Int → Int → Int) {a b : Int} (ha : Sm a) (hb : Sm b) (h : b ≠ 0) (hi : InR (f a b)) : tI (W (qv f a b)) = f a b := by rw [qv_ok f ha hb h, tI_in hi]
theorem weq_fl {q b r a : Int} (h : b * q + r = a) : (!(weq ((tI (W (q * b))) + r) a)) = false := by
  have : weq ((tI (W (q * b))) + r) a = true := by
    rw [weq_iff, tI_W]
    have e := bm_mod (q * b)
    rw [Int.mul_comm q b] at *
    simp only [MM] at *
    omega
  rw [this]; rfl
theorem weq_self {x y : Int} (h : x = y) : weq x y = true := by subst h; exact weq_iff.2 rfl
theorem nlt {a : Int} (h : Sm a) : weq a (-57896044618658097711785492504343953926634992332820282019728792003956564819968) = false := nwn (inR_of h) (by unfold InR; decide) (by unfold Sm at h; simp only [HH] at h; omega)
theorem d_in {a b : Int} (_ : Sm a) : (!inRB (cq a b - fq a b)) = false := by
  have : InR (cq a b - fq a b) := by unfold InR cq; simp only [HH]; split <;> omega
  rw [inRB_of this]; rfl
theorem qv_e (f : Int → Int → Int) {a b : Int} (h : qe a b ≠ 0) : qv f a b = 0 := by unfold qv; rw [if_neg h]
theorem qe_l {a b : Int} (h : b ≠ 0) (hl : a = -HH ∨ b = -HH) : qe a b = 20 := by unfold qe; rw [if_neg h, if_pos hl]
/-! ### Turned about -/
theorem fq_tt {a b : Int} (h : b ≠ 0) : fq (-a) (-b) = fq a b ∧ fr (-a) (-b) = -fr a b := by
  unfold fq fr
  by_cases h1 : 0 < b
  · rw [if_pos h1, if_pos h1, if_neg (by omega), if_neg (by omega), Int.neg_neg, Int.neg_neg]
    exact ⟨rfl, rfl⟩
  · rw [if_neg h1, if_neg h1, if_pos (by omega), if_pos (by omega)]
    exact ⟨rfl, by omega⟩
theorem fq_tp {a b : Int} (h : 0 < b) : (fr a b = 0 → fq (-a) b = -fq a b ∧ fr (-a) b = 0) ∧ (fr a b ≠ 0 → fq (-a) b = -fq a b - 1 ∧ fr (-a) b = b - fr a b) := by
  unfold fq fr
  rw [if_pos h, if_pos h, if_pos h, if_pos h]
  have e := Int.mul_ediv_add_emod a b
  have r0 := Int.emod_nonneg a (b := b) (by omega)
  have r1 := Int.emod_lt_of_pos a h
  generalize a / b = q at *
  generalize a % b = r at *
  refine ⟨fun h0 => ?_, fun h0 => ?_⟩
  · exact (Int.ediv_emod_unique (a := -a) (b := b) (r := 0) (q := -q) h).2 ⟨by rw [Int.mul_neg]; omega, by omega, by omega⟩
  · exact (Int.ediv_emod_unique (a := -a) (b := b) (r := b - r) (q := -q - 1) h).2 ⟨by rw [Int.mul_sub, Int.mul_neg]; omega, by omega, by omega⟩
theorem nc_tt {a b : Int} (h : b ≠ 0) : nc (-a) (-b) = nc a b := by
  unfold nc
  rw [(fq_tt (a := a) h).2]
  have e1 : cmp3 (-fr a b) (-b - -fr a b) = -cmp3 (fr a b) (b - fr a b) := by unfold cmp3; omega
  have e2 : cmp3 (-b) 0 = -cmp3 b 0 := by unfold cmp3; omega
  rw [e1, e2, Int.neg_mul_neg]
theorem nq_tt {a b : Int} (h : b ≠ 0) : nq (-a) (-b) = nq a b := by unfold nq; rw [nc_tt h, (fq_tt h).1]
theorem cq_tt {a b : Int} (h : b ≠ 0) : cq (-a) (-b) = cq a b := by
  unfold cq
  rw [(fq_tt (a := a) h).1, (fq_tt (a := a) h).2]
  by_cases e : fr a b = 0
  · rw [if_pos e, if_pos (by omega)]
  · rw [if_neg e, if_neg (by omega)]
theorem ncp {a b : Int} (h : 0 < b) : nc a b = cmp3 (fr a b) (b - fr a b) := by
  unfold nc
  have e : cmp3 b 0 = 1 := by unfold cmp3; omega
  rw [e, Int.mul_one]
theorem nq_tp {a b : Int} (h : 0 < b) : nq (-a) b = -nq a b := by
  obtain ⟨h0, h1⟩ := fq_tp (a := a) h
  unfold nq
  rw [ncp h, ncp h]
  by_cases e : fr a b = 0
  · obtain ⟨e1, e2⟩ := h0 e
    rw [e1, e2, e]
    have e3 : cmp3 0 (b - 0) = -1 := by unfold cmp3; omega
    rw [e3]
    simp
  · obtain ⟨e1, e2⟩ := h1 e
    rw [e1, e2]
    have e3 : cmp3 (b - fr a b) (b - (b - fr a b)) = -cmp3 (fr a b) (b - fr a b) := by unfold cmp3; omega
    rw [e3]
    have := cmp3_r (fr a b) (b - fr a b)
    split <;> split <;> omega
theorem nq_na {a b : Int} (h : b ≠ 0) : nq (-a) b = -nq a b := by
  by_cases h1 : 0 < b
  · exact nq_tp h1
  · have e := nq_tt (a := -a) h
    rw [Int.neg_neg] at e
    rw [← e, ← nq_tt (a := a) h]
    have := nq_tp (a := -a) (b := -b) (by omega)
    rw [Int.neg_neg] at this
    omega
theorem nq_nb {a b : Int} (h : b ≠ 0) : nq a (-b) = -nq a b := by
  have := nq_tt (a := -a) h
  rw [Int.neg_neg] at this
  rw [this, nq_na h]
theorem cq_turn {a b : Int} (h : b ≠ 0) : cq a b = -fq (-a) b := by
  have key : ∀ {a b : Int}, 0 < b → cq a b = -fq (-a) b := fun {a b} h => by
    obtain ⟨h0, h1⟩ := fq_tp (a := a) h
    unfold cq
    by_cases e : fr a b = 0
    · rw [if_pos e, (h0 e).1]; omega
    · rw [if_neg e, (h1 e).1]; omega
  by_cases h1 : 0 < b
  · exact key h1
  · rw [← cq_tt h, key (a := -a) (b := -b) (by omega), fq_tt (a := -a) h |>.1]
theorem own {b : Int} (h : b ≠ 0) : fr b b = 0 ∧ nq b b = 1 ∧ fq b 1 = b := by
  have key : ∀ {b : Int}, 0 < b → fr b b = 0 ∧ nq b b = 1 := fun {b} h => by
    have e1 : fr b b = 0 := by unfold fr; rw [if_pos h, Int.emod_self]
    have e2 : fq b b = 1 := by unfold fq; rw [if_pos h, Int.ediv_self (by omega)]
    refine ⟨e1, ?_⟩
    unfold nq
    rw [ncp h, e1, e2]
    have e3 : cmp3 0 (b - 0) = -1 := by unfold cmp3; omega
    rw [e3]
    simp
  refine ⟨?_, ?_, ?_⟩
  · by_cases h1 : 0 < b
    · exact (key h1).1
    · have := (fq_tt (a := b) h).2
      rw [(key (b := -b) (by omega)).1] at this
      omega
  · by_cases h1 : 0 < b
    · exact (key h1).2
    · rw [← nq_tt h]; exact (key (b := -b) (by omega)).2
  · unfold fq; rw [if_pos (by omega), Int.ediv_one]

/-! ### size, nearest -/
def ab (x : Int) : Int := if x < 0 then -x else x
/-- What is left of a by the nearest. -/
def dn (a b : Int) : Int := a - nq a b * b
theorem dn_facts {a b : Int} (ha : Sm a) (hb : Sm b) (h : b ≠ 0) : (dn a b = fr a b ∨ dn a b = fr a b - b) ∧ Sm (dn a b) ∧ ab (dn a b) ≤ ab b - ab (dn a b) ∧ (ab (dn a b) = ab b - ab (dn a b) → cmp3 (dn a b) 0 = -cmp3 a 0) := by
  obtain ⟨f0, f1, f2, f3, f4⟩ := fl_facts ha hb h
  have hn : nq a b = if nc a b > 0 ∨ nc a b = 0 ∧ 0 ≤ fq a b then fq a b + 1 else fq a b := rfl
  have hc : nc a b = cmp3 (fr a b) (b - fr a b) * cmp3 b 0 := rfl
  have hd : dn a b = a - nq a b * b := rfl
  have hq : (0 ≤ fq a b → b * fq a b * cmp3 b 0 ≥ 0) ∧ (fq a b < 0 → b * fq a b * cmp3 b 0 ≤ -(b * cmp3 b 0)) := by
    by_cases h1 : 0 < b
    · have e : cmp3 b 0 = 1 := by unfold cmp3; omega
      rw [e]
      refine ⟨fun hq => ?_, fun hq => ?_⟩
      · have := Int.mul_nonneg (Int.le_of_lt h1) hq; omega
      · have := Int.mul_le_mul_of_nonneg_left (show fq a b ≤ -1 by omega) (Int.le_of_lt h1); omega
    · have e : cmp3 b 0 = -1 := by unfold cmp3; omega
      rw [e]
      refine ⟨fun hq => ?_, fun hq => ?_⟩
      · have := Int.mul_nonneg (a := -b) (by omega) hq; rw [Int.neg_mul] at this; omega
      · have := Int.mul_le_mul_of_nonneg_left (c := -b) (show fq a b ≤ -1 by omega) (by omega); rw [Int.neg_mul] at this; omega
  unfold Sm at *
  generalize fq a b = q at *
  generalize fr a b = r at *
  have hd2 : dn a b = r ∨ dn a b = r - b := by
    rw [hd, hn]
    split
    · right; rw [Int.add_mul, Int.mul_comm q b]; omega
    · left; rw [Int.mul_comm q b]; omega
  have hw : (nc a b > 0 ∨ nc a b = 0 ∧ 0 ≤ q) → dn a b = r - b := fun hw => by rw [hd, hn, if_pos hw, Int.add_mul, Int.mul_comm q b]; omega
  have hw2 : ¬ (nc a b > 0 ∨ nc a b = 0 ∧ 0 ≤ q) → dn a b = r := fun hw => by rw [hd, hn, if_neg hw, Int.mul_comm q b]; omega
  generalize dn a b = d at *
  generalize nc a b = c at *
  refine ⟨hd2, by omega, ?_⟩
  by_cases h1 : 0 < b
  · have e : cmp3 b 0 = 1 := by unfold cmp3; omega
    rw [e, Int.mul_one] at hc hq
    unfold ab
    unfold cmp3 at hc ⊢
    generalize b * q = bq at *
    by_cases hcc : c > 0 ∨ c = 0 ∧ 0 ≤ q
    · have := hw hcc; omega
    · have := hw2 hcc; omega
  · have e : cmp3 b 0 = -1 := by unfold cmp3; omega
    rw [e, Int.mul_neg, Int.mul_one] at hc hq
    unfold ab
    unfold cmp3 at hc ⊢
    generalize b * q = bq at *
    by_cases hcc : c > 0 ∨ c = 0 ∧ 0 ≤ q
    · have := hw hcc; omega
    · have := hw2 hcc; omega
theorem sm_neg {a : Int} (h : Sm a) : Sm (-a) := by unfold Sm at *; omega
theorem neg_nz {b : Int} (h : b ≠ 0) : -b ≠ 0 := by omega
end Go.Qt
