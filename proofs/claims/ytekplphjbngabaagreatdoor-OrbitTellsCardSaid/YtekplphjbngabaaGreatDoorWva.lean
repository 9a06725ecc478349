/-
 Sine and cosine, enclosed: what the documents say of them, and plain laws, with no program in sight.
-/
import Derived.Test.YtekplphjbngabaaGreatDoorAna
set_option maxRecDepth 100000
namespace Go.Wv
open Go Go.RowKit Go.Sx Go.Nm Go.Wd Go.Qt Go.Iv Go.An
def dd (c : Bool) (k : Nat) : Int := bif c then (2 * (k : Int) + 1) * (2 * (k : Int) + 2) else (2 * (k : Int) + 2) * (2 * (k : Int) + 3)
def qI (n : Int) : Iv := mulI (pointI n) (pointI n)
def tm (c : Bool) (n : Int) : Nat → Iv
 | 0 => bif c then ofI 1 else pointI n
 | k + 1 => partI (mulI (tm c n k) (qI n)) (-1) (dd c k)
def su (c : Bool) (n : Int) : Nat → Iv
 | 0 => pointI 0
 | k + 1 => addI (su c n k) (tm c n k)
def around (n : Int) : Iv := makeI (-n) n
def size (t : Iv) : Int := mx t.hi (-t.lo)
def ptI (c : Bool) (n : Int) : Iv := addI (su c n 13) (around (size (tm c n 13)))
def onI (s : Iv) : Iv := meetI s (around 1073741824)
def waveP (c : Bool) (m r : Int) : Iv := onI (addI (onI (ptI c m)) (around r))
def midm (a : Iv) : Int := nq (a.lo + a.hi) 2
def midr (a : Iv) : Int := mx (a.hi - midm a) (midm a - a.lo)
def waveI (c : Bool) (a : Iv) : Iv := bif holdsI (around 4294967296) a then waveP c (midm a) (midr a) else bd
def xr (n : Int) : Rat := (n : Rat) / 1073741824
theorem xr_in {n : Int} (h1 : -4294967296 ≤ n) (h2 : n ≤ 4294967296) : -4 ≤ xr n ∧ xr n ≤ 4 := by
 have g1 := cle.2 h1
 have g2 := cle.2 h2
 have e1 : ((-4294967296 : Int) : Rat) = -4294967296 := by rfl
 have e2 : ((4294967296 : Int) : Rat) = 4294967296 := by rfl
 rw [e1] at g1
 rw [e2] at g2
 unfold xr
 grind
theorem bd_point {n M : Int} (h1 : -M ≤ n) (h2 : n ≤ M) (hM : M ≤ 1152921504606846976) : Bd (pointI n) M := by
 have h := hd_point (n := n) (by omega) (by omega)
 refine ⟨h.2, ?_, ?_⟩ <;> rw [h.1] <;> simp only <;> omega
theorem hd_pt {n : Int} (h1 : -1152921504606846976 ≤ n) (h2 : n ≤ 1152921504606846976) : Hd (pointI n) n := by
 rw [(hd_point h1 h2).1]
 exact ⟨by simp only; grind, by simp only; grind⟩
theorem around_eq {r : Int} (h0 : 0 ≤ r) (h1 : r ≤ 1152921504606846976) : around r = ⟨-r, r, false⟩ ∧ fine (around r) = true := by
 have e : (⟨mn (-r) r, mx (-r) r, false⟩ : Iv) = ⟨-r, r, false⟩ := by
  have a : mn (-r) r = -r := by unfold mn; split <;> omega
  have b : mx (-r) r = r := by unfold mx; split <;> omega
  rw [a, b]
 have hf : fine ⟨-r, r, false⟩ = true := fine_iff.2 ⟨rfl, by simp only; omega, by simp only; omega, h1⟩
 have e2 : around r = ⟨-r, r, false⟩ := by
  unfold around makeI
  rw [e]; exact told_ok hf
 rw [e2]; exact ⟨rfl, hf⟩
theorem hd_around {r : Int} {v : Rat} (h1 : r ≤ 1152921504606846976) (l : -(r : Rat) ≤ v) (u : v ≤ (r : Rat)) : around r = ⟨-r, r, false⟩ ∧ fine (around r) = true ∧ Hd (around r) v := by
 have h0 : 0 ≤ r := by
  have : ((0 : Int) : Rat) ≤ (r : Rat) := by
   have : ((0 : Int) : Rat) = 0 := rfl
   grind
  exact cle.1 this
 have h := around_eq h0 h1
 refine ⟨h.1, h.2, ?_⟩
 rw [h.1]
 refine ⟨?_, u⟩
 show ((-r : Int) : Rat) ≤ v
 rw [Rat.intCast_neg]; exact l
theorem q_facts {n : Int} (h1 : -4294967296 ≤ n) (h2 : n ≤ 4294967296) : Bd (qI n) 17179869184 ∧ Hd (qI n) (1073741824 * (xr n * xr n)) ∧ MulOf (pointI n) (pointI n) (qI n) := by
 have b := bd_point h1 h2 (by decide)
 have m := Bd.mul b b (k := 17179869184) (by decide) (by decide)
 have hp := hd_pt (n := n) (by omega) (by omega)
 have h := hd_mul (fine_iff.1 m.1.f).1 hp hp
 refine ⟨m.1, ?_, m.2⟩
 have e : (n : Rat) * n / 1073741824 = 1073741824 * (xr n * xr n) := by unfold xr; grind
 rw [e] at h
 exact h
theorem dd_big (c : Bool) (k : Nat) : 0 < dd c k ∧ (1 ≤ k → 12 ≤ dd c k) ∧ (2 ≤ k → 30 ≤ dd c k) ∧ 2 ≤ dd c k := by
 have key : ∀ a b x y : Int, 0 ≤ x → x ≤ a → 0 ≤ y → y ≤ b → x * y ≤ a * b := fun a b x y h0 h1 h2 h3 => Int.mul_le_mul h1 h3 h2 (by omega)
 cases c with
 | true =>
  show 0 < (2 * (k : Int) + 1) * (2 * (k : Int) + 2) ∧ (1 ≤ k → 12 ≤ (2 * (k : Int) + 1) * (2 * (k : Int) + 2)) ∧ (2 ≤ k → 30 ≤ (2 * (k : Int) + 1) * (2 * (k : Int) + 2)) ∧ 2 ≤ (2 * (k : Int) + 1) * (2 * (k : Int) + 2)
  have := key (2 * (k : Int) + 1) (2 * (k : Int) + 2) 1 2 (by omega) (by omega) (by omega) (by omega)
  refine ⟨by omega, fun h => ?_, fun h => ?_, by omega⟩
  · exact key (2 * (k : Int) + 1) (2 * (k : Int) + 2) 3 4 (by omega) (by omega) (by omega) (by omega)
  · exact key (2 * (k : Int) + 1) (2 * (k : Int) + 2) 5 6 (by omega) (by omega) (by omega) (by omega)
 | false =>
  show 0 < (2 * (k : Int) + 2) * (2 * (k : Int) + 3) ∧ (1 ≤ k → 12 ≤ (2 * (k : Int) + 2) * (2 * (k : Int) + 3)) ∧ (2 ≤ k → 30 ≤ (2 * (k : Int) + 2) * (2 * (k : Int) + 3)) ∧ 2 ≤ (2 * (k : Int) + 2) * (2 * (k : Int) + 3)
  have := key (2 * (k : Int) + 2) (2 * (k : Int) + 3) 2 3 (by omega) (by omega) (by omega) (by omega)
  refine ⟨by omega, fun h => ?_, fun h => ?_, by omega⟩
  · have := key (2 * (k : Int) + 2) (2 * (k : Int) + 3) 4 5 (by omega) (by omega) (by omega) (by omega); omega
  · have := key (2 * (k : Int) + 2) (2 * (k : Int) + 3) 6 7 (by omega) (by omega) (by omega) (by omega); omega
theorem dd_small (c : Bool) {k : Nat} (h : k ≤ 13) : I64 (dd c k) ∧ dd c k ≤ 900 := by
 have key : ∀ a b x y : Int, 0 ≤ x → x ≤ a → 0 ≤ y → y ≤ b → x * y ≤ a * b := fun a b x y h0 h1 h2 h3 => Int.mul_le_mul h1 h3 h2 (by omega)
 have hp := (dd_big c k).1
 have : dd c k ≤ 900 := by
  cases c with
  | true => have := key 27 28 (2 * (k : Int) + 1) (2 * (k : Int) + 2) (by omega) (by omega) (by omega) (by omega); show (2 * (k : Int) + 1) * (2 * (k : Int) + 2) ≤ 900; omega
  | false => have := key 28 29 (2 * (k : Int) + 2) (2 * (k : Int) + 3) (by omega) (by omega) (by omega) (by omega); show (2 * (k : Int) + 2) * (2 * (k : Int) + 3) ≤ 900; omega
 exact ⟨by unfold I64; omega, this⟩
theorem dd_R (c : Bool) (k : Nat) : ((dd c k : Int) : Rat) = dR c k := by
 have e : ((k : Int) : Rat) = (k : Rat) := rfl
 cases c with
 | true =>
  show (((2 * (k : Int) + 1) * (2 * (k : Int) + 2) : Int) : Rat) = (2 * (k : Rat) + 1) * (2 * (k : Rat) + 2)
  simp only [Rat.intCast_mul, Rat.intCast_add, e]
  rfl
 | false =>
  show (((2 * (k : Int) + 2) * (2 * (k : Int) + 3) : Int) : Rat) = (2 * (k : Rat) + 2) * (2 * (k : Rat) + 3)
  simp only [Rat.intCast_mul, Rat.intCast_add, e]
  rfl
def tb (k : Nat) : Int := if k = 0 then 4294967296 else if k = 1 then 34359738368 else 68719476736
theorem tm_facts (c : Bool) {n : Int} (h1 : -4294967296 ≤ n) (h2 : n ≤ 4294967296) : ∀ k, k ≤ 14 → Bd (tm c n k) (tb k) ∧ Hd (tm c n k) (1073741824 * tR c (xr n) k)
 | 0, _ => by
  rw [tR_zero]
  cases c with
  | true =>
   have e : tm true n 0 = ⟨1073741824, 1073741824, false⟩ := by show ofI 1 = _; decide
   rw [e]
   refine ⟨⟨by decide, by decide, by decide⟩, ?_, ?_⟩
   · show ((1073741824 : Int) : Rat) ≤ 1073741824 * 1
     have : ((1073741824 : Int) : Rat) = 1073741824 := rfl
     grind
   · show 1073741824 * 1 ≤ ((1073741824 : Int) : Rat)
     have : ((1073741824 : Int) : Rat) = 1073741824 := rfl
     grind
  | false =>
   refine ⟨bd_point h1 h2 (by decide), ?_⟩
   have h := hd_pt (n := n) (by omega) (by omega)
   have e : 1073741824 * xr n = (n : Rat) := by unfold xr; grind
   show Hd (pointI n) (1073741824 * xr n)
   rw [e]; exact h
 | k + 1, hk => by
  obtain ⟨b, hh⟩ := tm_facts c h1 h2 k (by omega)
  obtain ⟨qb, qh, _⟩ := q_facts h1 h2
  obtain ⟨d1, d2, d3, d4⟩ := dd_big c k
  obtain ⟨d5, _⟩ := dd_small c (k := k) (by omega)
  have htb : 0 ≤ tb k ∧ tb k ≤ 68719476736 := by unfold tb; split <;> (try split) <;> omega
  have m := (Bd.mul b qb (k := 16 * tb k) (by omega) (by omega)).1
  have hd1 : 16 * tb k ≤ tb (k + 1) * dd c k := by
   unfold tb
   by_cases k0 : k = 0
   · subst k0; rw [if_pos rfl, if_neg (by omega), if_pos rfl]; omega
   · by_cases k1 : k = 1
     · subst k1; rw [if_neg (by omega), if_pos rfl, if_neg (by omega), if_neg (by omega)]; have := d2 (by omega); omega
     · rw [if_neg k0, if_neg k1, if_neg (by omega), if_neg (by omega)]; have := d3 (by omega); omega
  have p := Bd.part m d5 d1 hd1 (by unfold tb; split <;> (try split) <;> omega)
  refine ⟨p, ?_⟩
  have g := hd_part (n := -1) (by unfold I64; omega) d5 (fine_iff.1 p.f).1 (hd_mul (fine_iff.1 m.f).1 hh qh)
  have e : 1073741824 * tR c (xr n) k * (1073741824 * (xr n * xr n)) / 1073741824 * ((-1 : Int) : Rat) / ((dd c k : Int) : Rat) = 1073741824 * tR c (xr n) (k + 1) := by
   rw [tR_succ, dd_R]
   have : ((-1 : Int) : Rat) = -1 := rfl
   rw [this]
   have hne : dR c k ≠ 0 := by
    rw [← dd_R]
    intro hz
    have : ((dd c k : Int) : Rat) = ((0 : Int) : Rat) := by simpa using hz
    have := Rat.intCast_inj.1 this
    omega
   grind
  rw [e] at g
  exact g
theorem su_facts (c : Bool) {n : Int} (h1 : -4294967296 ≤ n) (h2 : n ≤ 4294967296) : ∀ k, k ≤ 13 → Bd (su c n k) (k * 68719476736) ∧ Hd (su c n k) (1073741824 * alt (fun j => ex (xr n) (ix c j)) k)
 | 0, _ => by
  have e : su c n 0 = ⟨0, 0, false⟩ := by show pointI 0 = _; decide
  rw [e]
  refine ⟨⟨by decide, by decide, by decide⟩, ?_, ?_⟩
  · show ((0 : Int) : Rat) ≤ 1073741824 * 0
    have : ((0 : Int) : Rat) = 0 := rfl
    grind
  · show 1073741824 * 0 ≤ ((0 : Int) : Rat)
    have : ((0 : Int) : Rat) = 0 := rfl
    grind
 | k + 1, hk => by
  obtain ⟨b, hh⟩ := su_facts c h1 h2 k (by omega)
  obtain ⟨tb', th⟩ := tm_facts c h1 h2 k (by omega)
  have htb : 0 ≤ tb k ∧ tb k ≤ 68719476736 := by unfold tb; split <;> (try split) <;> omega
  have a := add_ok b.f tb'.f (by have := b.l; have := tb'.l; omega) (by have := b.h; have := tb'.h; omega)
  refine ⟨⟨a.2, ?_, ?_⟩, ?_⟩
  · show _ ≤ (addI (su c n k) (tm c n k)).lo
    rw [a.1]
    have := b.l; have := tb'.l
    simp only; omega
  · show (addI (su c n k) (tm c n k)).hi ≤ _
    rw [a.1]
    have := b.h; have := tb'.h
    simp only; omega
  · have g := hd_add (fine_iff.1 a.2).1 hh th
    have e : 1073741824 * alt (fun j => ex (xr n) (ix c j)) k + 1073741824 * tR c (xr n) k = 1073741824 * alt (fun j => ex (xr n) (ix c j)) (k + 1) := by
     show _ = 1073741824 * (alt (fun j => ex (xr n) (ix c j)) k + sg k * ex (xr n) (ix c k))
     unfold tR
     grind
    rw [e] at g
    exact g
theorem pt_facts (c : Bool) {n : Int} (h1 : -4294967296 ≤ n) (h2 : n ≤ 4294967296) : Bd (ptI c n) 1099511627776 ∧ Hd (ptI c n) (1073741824 * FR c (xr n)) := by
 obtain ⟨b, hh⟩ := su_facts c h1 h2 13 (by omega)
 obtain ⟨tb', th⟩ := tm_facts c h1 h2 13 (by omega)
 have hx := xr_in h1 h2
 have rt := fine_iff.1 tb'.f
 have tl := tb'.l
 have tu := tb'.h
 have e13 : tb 13 = 68719476736 := by decide
 rw [e13] at tl tu
 have s1 : (tm c n 13).hi ≤ size (tm c n 13) ∧ -(tm c n 13).lo ≤ size (tm c n 13) := mx_le.1 (Int.le_refl _)
 have s2 : size (tm c n 13) ≤ 68719476736 := mx_le.2 ⟨tu, by omega⟩
 have c1 := cle.2 s1.1
 have c2 := cle.2 s1.2
 rw [Rat.intCast_neg] at c2
 unfold Hd at th
 have es : tR c (xr n) 13 = -ex (xr n) (ix c 13) := by
  unfold tR
  have : sg 13 = -1 := rfl
  rw [this]; grind
 rw [es] at th
 have rm := rem_all (r := (size (tm c n 13) : Rat) / 1073741824) hx c (by grind) (by grind)
 have ar := hd_around (r := size (tm c n 13)) (v := 1073741824 * (FR c (xr n) - alt (fun j => ex (xr n) (ix c j)) 13)) (by omega) (by grind) (by grind)
 have e13' : (13 : Nat) * (68719476736 : Int) = 893353197568 := by decide
 have b1 := b.l
 have b2 := b.h
 have a := add_ok b.f ar.2.1 (by rw [ar.1]; simp only; omega) (by rw [ar.1]; simp only; omega)
 refine ⟨⟨a.2, ?_, ?_⟩, ?_⟩
 · show _ ≤ (addI (su c n 13) (around (size (tm c n 13)))).lo
   rw [a.1, ar.1]; simp only; omega
 · show (addI (su c n 13) (around (size (tm c n 13)))).hi ≤ _
   rw [a.1, ar.1]; simp only; omega
 · have g := hd_add (fine_iff.1 a.2).1 hh ar.2.2
   have e : 1073741824 * alt (fun j => ex (xr n) (ix c j)) 13 + 1073741824 * (FR c (xr n) - alt (fun j => ex (xr n) (ix c j)) 13) = 1073741824 * FR c (xr n) := by grind
   rw [e] at g
   exact g
def cl1 (v : Rat) : Rat := if v < -1 then -1 else if 1 < v then 1 else v
def sR (c : Bool) (x : Rat) : Rat := cl1 (FR c x)
theorem sR_near {x : Rat} (hx : -4 ≤ x ∧ x ≤ 4) (c : Bool) : -eps ≤ sR c x - FR c x ∧ sR c x - FR c x ≤ eps ∧ -1 ≤ sR c x ∧ sR c x ≤ 1 := by
 have he := eps_pos
 have h := cs_le hx
 unfold sR cl1
 cases c with
 | true =>
  show -eps ≤ (if cosR x < -1 then -1 else if 1 < cosR x then 1 else cosR x) - cosR x ∧ _ ∧ _
  show -eps ≤ (if cosR x < -1 then -1 else if 1 < cosR x then 1 else cosR x) - cosR x ∧ (if cosR x < -1 then -1 else if 1 < cosR x then 1 else cosR x) - cosR x ≤ eps ∧ -1 ≤ (if cosR x < -1 then -1 else if 1 < cosR x then 1 else cosR x) ∧ (if cosR x < -1 then -1 else if 1 < cosR x then 1 else cosR x) ≤ 1
  split
  · grind
  · split <;> grind
 | false =>
  show -eps ≤ (if sinR x < -1 then -1 else if 1 < sinR x then 1 else sinR x) - sinR x ∧ (if sinR x < -1 then -1 else if 1 < sinR x then 1 else sinR x) - sinR x ≤ eps ∧ -1 ≤ (if sinR x < -1 then -1 else if 1 < sinR x then 1 else sinR x) ∧ (if sinR x < -1 then -1 else if 1 < sinR x then 1 else sinR x) ≤ 1
  split
  · grind
  · split <;> grind
theorem int_le {x y : Int} {t : Rat} (h : (x : Rat) ≤ (y : Rat) + t) (ht : t < 1) : x ≤ y := by
 refine Int.not_lt.1 fun hn => ?_
 have : ((y + 1 : Int) : Rat) ≤ (x : Rat) := cle.2 hn
 rw [Rat.intCast_add] at this
 have e : ((1 : Int) : Rat) = 1 := rfl
 grind
theorem eps_30 : 1073741824 * (12 * eps) ≤ 1 / 1000 := by
 have := eps_small
 grind
theorem on_facts {s : Iv} {v w : Rat} (fs : fine s = true) (h : Hd s (1073741824 * v)) (hw : w = cl1 v) (hv : -(1 + eps) ≤ v ∧ v ≤ 1 + eps) : fine (onI s) = true ∧ Hd (onI s) (1073741824 * w) ∧ onI s = ⟨mx s.lo (-1073741824), mn s.hi 1073741824, false⟩ := by
 have he := eps_30
 have hp := eps_pos
 have co : ((1073741824 : Int) : Rat) = 1073741824 := rfl
 have con : ((-1073741824 : Int) : Rat) = -1073741824 := rfl
 unfold Hd at h
 have hs : Hd s (1073741824 * w) := by
  rw [hw]
  unfold cl1
  split
  · rename_i h1
    have : s.lo ≤ -1073741824 := cle.1 (by rw [con]; grind)
    have : -1073741824 ≤ s.hi := int_le (t := 1 / 2) (by rw [con]; grind) (by grind)
    have c1 := cle.2 ‹s.lo ≤ -1073741824›
    have c2 := cle.2 this
    rw [con] at c1 c2
    exact ⟨by grind, by grind⟩
  · split
    · rename_i h1
      have a1 : s.lo ≤ 1073741824 := int_le (t := 1 / 2) (by rw [co]; grind) (by grind)
      have a2 : 1073741824 ≤ s.hi := cle.1 (by rw [co]; grind)
      have c1 := cle.2 a1
      have c2 := cle.2 a2
      rw [co] at c1 c2
      exact ⟨by grind, by grind⟩
    · exact h
 have hw1 : -1 ≤ w ∧ w ≤ 1 := by
  rw [hw]; unfold cl1
  split
  · grind
  · split <;> grind
 have ar := hd_around (r := 1073741824) (v := 1073741824 * w) (by decide) (by rw [co]; grind) (by rw [co]; grind)
 have m := hd_meet fs ar.2.1 hs ar.2.2
 refine ⟨m.2.1, m.2.2, ?_⟩
 unfold onI
 rw [m.1, ar.1]
end Go.Wv
/-
 Sine and cosine, enclosed: the laws' own, with no program in sight.
-/
namespace Go.Wv
open Go Go.RowKit Go.Sx Go.Nm Go.Wd Go.Qt Go.Iv Go.An
theorem nq2 (s : Int) : nq s 2 = if s % 2 = 0 then s / 2 else if 0 ≤ s then s / 2 + 1 else s / 2 := by
 unfold nq nc fq fr cmp3
 by_cases h : s % 2 = 0
 · simp [h]
 · have h1 : s % 2 = 1 := by omega
   simp [h1]
   by_cases h0 : 0 ≤ s
   · have : 0 ≤ s / 2 := by omega
     simp [h0, this]
   · have : ¬ 0 ≤ s / 2 := by omega
     simp [h0, this]
theorem mid_spec {a : Iv} (fa : fine a = true) : a.lo ≤ midm a ∧ midm a ≤ a.hi ∧ a.hi - midm a ≤ midr a ∧ midm a - a.lo ≤ midr a ∧ 0 ≤ midr a ∧ 2 * midr a ≤ a.hi - a.lo + 1 := by
 have ra := fine_iff.1 fa
 unfold midr midm
 rw [nq2]
 have hm := (mx_le (a := a.hi - (if (a.lo + a.hi) % 2 = 0 then (a.lo + a.hi) / 2 else if 0 ≤ a.lo + a.hi then (a.lo + a.hi) / 2 + 1 else (a.lo + a.hi) / 2)) (b := (if (a.lo + a.hi) % 2 = 0 then (a.lo + a.hi) / 2 else if 0 ≤ a.lo + a.hi then (a.lo + a.hi) / 2 + 1 else (a.lo + a.hi) / 2) - a.lo)).1 (Int.le_refl _)
 have hm2 : ∀ x y : Int, mx x y = x ∨ mx x y = y := fun x y => by unfold mx; split <;> simp
 have h3 := hm2 (a.hi - (if (a.lo + a.hi) % 2 = 0 then (a.lo + a.hi) / 2 else if 0 ≤ a.lo + a.hi then (a.lo + a.hi) / 2 + 1 else (a.lo + a.hi) / 2)) ((if (a.lo + a.hi) % 2 = 0 then (a.lo + a.hi) / 2 else if 0 ≤ a.lo + a.hi then (a.lo + a.hi) / 2 + 1 else (a.lo + a.hi) / 2) - a.lo)
 generalize mx _ _ = r at *
 split at hm <;> (try split at hm) <;> split at h3 <;> (try split at h3) <;> split <;> (try split) <;> omega
theorem mid_point {n : Int} (h1 : -1152921504606846976 ≤ n) (h2 : n ≤ 1152921504606846976) : midm (pointI n) = n ∧ midr (pointI n) = 0 := by
 have h := hd_point h1 h2
 have m := mid_spec h.2
 rw [h.1] at m ⊢
 simp only at m
 omega
theorem holds_far {a : Iv} (h : holdsI (around 4294967296) a = true) : fine a = true ∧ -4294967296 ≤ a.lo ∧ a.hi ≤ 4294967296 := by
 have e := around_eq (r := 4294967296) (by decide) (by decide)
 unfold holdsI at h
 simp only [Bool.and_eq_true, decide_eq_true_eq] at h
 rw [e.1] at h
 exact ⟨(fine2.1 h.1).2, h.2.1, h.2.2⟩
theorem far_holds {a : Iv} (fa : fine a = true) (h1 : -4294967296 ≤ a.lo) (h2 : a.hi ≤ 4294967296) : holdsI (around 4294967296) a = true := by
 have e := around_eq (r := 4294967296) (by decide) (by decide)
 exact holds_mk e.2 fa (by rw [e.1]; exact h1) (by rw [e.1]; exact h2)
theorem wave_eq (c : Bool) {a : Iv} (h : holdsI (around 4294967296) a = true) : waveI c a = waveP c (midm a) (midr a) := by
 unfold waveI; rw [h]; rfl
theorem sR_eq (c : Bool) (x : Rat) : sR c x = cl1 (FR c x) := rfl
theorem FR_in {x : Rat} (hx : -4 ≤ x ∧ x ≤ 4) (c : Bool) : -(1 + eps) ≤ FR c x ∧ FR c x ≤ 1 + eps := by
 cases c with
 | true => exact (cs_le hx).1
 | false => exact (cs_le hx).2
theorem sR_lips {x y : Rat} (hx : -4 ≤ x ∧ x ≤ 4) (hy : -4 ≤ y ∧ y ≤ 4) (c : Bool) : -(An.ab (x - y) + 12 * eps) ≤ sR c x - sR c y ∧ sR c x - sR c y ≤ An.ab (x - y) + 12 * eps := by
 have l := lips hx hy c
 have a := sR_near hx c
 have b := sR_near hy c
 grind
theorem xr_sub (m n : Int) : 1073741824 * An.ab (xr m - xr n) ≤ (mx (m - n) (n - m) : Int) := by
 have g : m - n ≤ mx (m - n) (n - m) ∧ n - m ≤ mx (m - n) (n - m) := mx_le.1 (Int.le_refl _)
 have g1 := cle.2 g.1
 have g2 := cle.2 g.2
 rw [Rat.intCast_sub] at g1 g2
 unfold An.ab xr
 split <;> grind
structure WF (c : Bool) (a w : Iv) : Prop where
 f : fine w = true
 l1 : -1073741824 ≤ w.lo
 h1 : w.hi ≤ 1073741824
 m : Hd w (1073741824 * sR c (xr (midm a)))
 near : ∀ n, a.lo ≤ n → n ≤ a.hi → (w.lo : Rat) ≤ 1073741824 * sR c (xr n) + 1 / 4 ∧ 1073741824 * sR c (xr n) ≤ (w.hi : Rat) + 1 / 4
theorem waveP_facts (c : Bool) {m r : Int} (h1 : -4294967296 ≤ m) (h2 : m ≤ 4294967296) (h0 : 0 ≤ r) (h3 : r ≤ 17179869184) :
 fine (waveP c m r) = true ∧ waveP c m r = ⟨mx ((onI (ptI c m)).lo - r) (-1073741824), mn ((onI (ptI c m)).hi + r) 1073741824, false⟩ ∧ Hd (waveP c m r) (1073741824 * sR c (xr m)) ∧ Hd (onI (ptI c m)) (1073741824 * sR c (xr m)) := by
 have hx := xr_in h1 h2
 obtain ⟨pb, ph⟩ := pt_facts c h1 h2
 have o := on_facts (w := sR c (xr m)) pb.f ph (sR_eq c _) (FR_in hx c)
 have ro := fine_iff.1 o.1
 have co : ((0 : Int) : Rat) = 0 := rfl
 have hr0 := cle.2 h0
 rw [co] at hr0
 have ar := hd_around (r := r) (v := 0) (by omega) (by grind) (by grind)
 have ol : -1073741824 ≤ (onI (ptI c m)).lo := by rw [o.2.2]; exact (mx_le.1 (Int.le_refl _)).2
 have oh : (onI (ptI c m)).hi ≤ 1073741824 := by rw [o.2.2]; exact (mn_ge.1 (Int.le_refl _)).2
 have a := add_ok o.1 ar.2.1 (by rw [ar.1]; simp only; omega) (by rw [ar.1]; simp only; omega)
 have g := hd_add (fine_iff.1 a.2).1 o.2.1 ar.2.2
 have hs := sR_near hx c
 have g' : Hd (addI (onI (ptI c m)) (around r)) (1073741824 * sR c (xr m)) := by
  have e : 1073741824 * sR c (xr m) + 0 = 1073741824 * sR c (xr m) := by grind
  rw [e] at g; exact g
 have hcl : sR c (xr m) = cl1 (sR c (xr m)) := by unfold cl1; split <;> (try split) <;> grind
 have he := eps_pos
 have q := on_facts (w := sR c (xr m)) a.2 g' hcl (by grind)
 refine ⟨q.1, ?_, q.2.1, o.2.1⟩
 show onI (addI (onI (ptI c m)) (around r)) = _
 rw [q.2.2, a.1, ar.1]
 rfl
theorem wave_facts (c : Bool) {a : Iv} (h : holdsI (around 4294967296) a = true) : WF c a (waveI c a) := by
 obtain ⟨fa, b1, b2⟩ := holds_far h
 obtain ⟨m1, m2, m3, m4, m5, m6⟩ := mid_spec fa
 have ra := fine_iff.1 fa
 rw [wave_eq c h]
 have w := waveP_facts c (m := midm a) (r := midr a) (by omega) (by omega) m5 (by omega)
 obtain ⟨w1, w2, w3, w4⟩ := w
 have co : ((1073741824 : Int) : Rat) = 1073741824 := rfl
 have con : ((-1073741824 : Int) : Rat) = -1073741824 := rfl
 refine ⟨w1, ?_, ?_, w3, fun n n1 n2 => ?_⟩
 · rw [w2]; exact (mx_le.1 (Int.le_refl _)).2
 · rw [w2]; exact (mn_ge.1 (Int.le_refl _)).2
 · have hx := xr_in (n := n) (by omega) (by omega)
   have hy := xr_in (n := midm a) (by omega) (by omega)
   have l := sR_lips hx hy c
   have s := sR_near hx c
   have d := xr_sub n (midm a)
   have dm : mx (n - midm a) (midm a - n) ≤ midr a := mx_le.2 ⟨by omega, by omega⟩
   have dm := cle.2 dm
   have he := eps_30
   unfold Hd at w4
   rw [w2]
   constructor
   · show ((mx ((onI (ptI c (midm a))).lo - midr a) (-1073741824) : Int) : Rat) ≤ _
     have e : mx ((onI (ptI c (midm a))).lo - midr a) (-1073741824) = (onI (ptI c (midm a))).lo - midr a ∨ mx ((onI (ptI c (midm a))).lo - midr a) (-1073741824) = -1073741824 := by unfold mx; split <;> simp
     rcases e with e | e <;> rw [e]
     · rw [Rat.intCast_sub]; grind
     · rw [con]; grind
   · show _ ≤ ((mn ((onI (ptI c (midm a))).hi + midr a) 1073741824 : Int) : Rat) + 1 / 4
     have e : mn ((onI (ptI c (midm a))).hi + midr a) 1073741824 = (onI (ptI c (midm a))).hi + midr a ∨ mn ((onI (ptI c (midm a))).hi + midr a) 1073741824 = 1073741824 := by unfold mn; split <;> simp
     rcases e with e | e <;> rw [e]
     · rw [Rat.intCast_add]; grind
     · rw [co]; grind
theorem sq_hd {w : Iv} {v : Rat} (f : fine w = true) (l : -1073741824 ≤ w.lo) (u : w.hi ≤ 1073741824) (h : Hd w (1073741824 * v)) {z : Iv} {y : Rat} (f2 : fine z = true) (l2 : -1073741824 ≤ z.lo) (u2 : z.hi ≤ 1073741824) (h2 : Hd z (1073741824 * y)) :
 Bd (mulI w z) 1073741824 ∧ Hd (mulI w z) (1073741824 * (v * y)) := by
 have m := Bd.mul (M := 1073741824) (K := 1073741824) (k := 1073741824) ⟨f, l, u⟩ ⟨f2, l2, u2⟩ (by decide) (by decide)
 have g := hd_mul (fine_iff.1 m.1.f).1 h h2
 have e : 1073741824 * v * (1073741824 * y) / 1073741824 = 1073741824 * (v * y) := by grind
 rw [e] at g
 exact ⟨m.1, g⟩
theorem near_mul {u v F G : Rat} (h1 : -eps ≤ u - F ∧ u - F ≤ eps ∧ -1 ≤ u ∧ u ≤ 1) (h2 : -eps ≤ v - G ∧ v - G ≤ eps ∧ -1 ≤ v ∧ v ≤ 1) : -(3 * eps) ≤ u * v - F * G ∧ u * v - F * G ≤ 3 * eps := by
 have he := eps_pos
 have hl := eps_lt
 have a := ab_mul_le (x := u) (y := v - G) (a := 1) (b := eps) (by grind) (by grind)
 have b := ab_mul_le (x := u - F) (y := G) (a := eps) (b := 1 + eps) (by grind) (by grind)
 have e1 : eps * (1 + eps) ≤ 2 * eps := by
  have := Rat.mul_nonneg (Rat.le_of_lt he) (show 0 ≤ 1 - eps by grind)
  grind
 grind
theorem add_two {a b : Iv} (ha : Bd a 1073741824) (hb : Bd b 1073741824) : addI a b = ⟨a.lo + b.lo, a.hi + b.hi, false⟩ ∧ fine (addI a b) = true := by
 have := ha.l; have := ha.h; have := hb.l; have := hb.h
 exact add_ok ha.f hb.f (by omega) (by omega)
theorem one_held {a : Iv} (h : holdsI (around 4294967296) a = true) : holdsI (addI (mulI (waveI false a) (waveI false a)) (mulI (waveI true a) (waveI true a))) (ofI 1) = true := by
 obtain ⟨fa, b1, b2⟩ := holds_far h
 obtain ⟨m1, m2, _⟩ := mid_spec fa
 have s := wave_facts false h
 have c := wave_facts true h
 have hx := xr_in (n := midm a) (by omega) (by omega)
 have p := sq_hd s.f s.l1 s.h1 s.m s.f s.l1 s.h1 s.m
 have q := sq_hd c.f c.l1 c.h1 c.m c.f c.l1 c.h1 c.m
 have ad := add_two p.1 q.1
 have g := hd_add (fine_iff.1 ad.2).1 p.2 q.2
 have ns := sR_near hx false
 have nc := sR_near hx true
 have n1 := near_mul ns ns
 have n2 := near_mul nc nc
 have o := one_cs hx
 have o' : 1 - eps ≤ FR true (xr (midm a)) * FR true (xr (midm a)) + FR false (xr (midm a)) * FR false (xr (midm a)) ∧ FR true (xr (midm a)) * FR true (xr (midm a)) + FR false (xr (midm a)) * FR false (xr (midm a)) ≤ 1 + eps := o
 have he := eps_30
 have co : ((1073741824 : Int) : Rat) = 1073741824 := rfl
 unfold Hd at g
 have e1 : ofI 1 = ⟨1073741824, 1073741824, false⟩ := by decide
 rw [e1]
 refine holds_mk ad.2 (by decide) ?_ ?_
 · exact int_le (t := 1 / 2) (by rw [co]; grind) (by grind)
 · exact int_le (t := 1 / 2) (by rw [co]; grind) (by grind)
theorem meet_int {a b : Iv} (fa : fine a = true) (fb : fine b = true) (h1 : a.lo ≤ b.hi) (h2 : b.lo ≤ a.hi) : (meetI a b).bad = false := by
 have ra := fine_iff.1 fa
 have rb := fine_iff.1 fb
 have e1 : mx a.lo b.lo ≤ mn a.hi b.hi := mn_ge.2 ⟨mx_le.2 ⟨ra.2.2.1, h2⟩, mx_le.2 ⟨h1, rb.2.2.1⟩⟩
 have g1 : a.lo ≤ mx a.lo b.lo ∧ b.lo ≤ mx a.lo b.lo := mx_le.1 (Int.le_refl _)
 have g2 : mn a.hi b.hi ≤ a.hi ∧ mn a.hi b.hi ≤ b.hi := mn_ge.1 (Int.le_refl _)
 have hf : fine ⟨mx a.lo b.lo, mn a.hi b.hi, false⟩ = true := fine_iff.2 ⟨rfl, by simp only; omega, e1, by simp only; omega⟩
 unfold meetI
 rw [fine2.2 ⟨fa, fb⟩]
 show (told _).bad = false
 rw [told_ok hf]
theorem sums {a b : Iv} (ha : holdsI (around 4294967296) a = true) (hb : holdsI (around 4294967296) b = true) (ht : holdsI (around 4294967296) (addI a b) = true) :
 (meetI (waveI false (addI a b)) (addI (mulI (waveI false a) (waveI true b)) (mulI (waveI true a) (waveI false b)))).bad = false ∧
 (meetI (waveI true (addI a b)) (subI (mulI (waveI true a) (waveI true b)) (mulI (waveI false a) (waveI false b)))).bad = false := by
 obtain ⟨fa, a1, a2⟩ := holds_far ha
 obtain ⟨fb, b1, b2⟩ := holds_far hb
 obtain ⟨ft, t1, t2⟩ := holds_far ht
 obtain ⟨_, _, _, te⟩ := add_good (fine_iff.1 ft).1
 obtain ⟨m1, m2, _⟩ := mid_spec fa
 obtain ⟨m3, m4, _⟩ := mid_spec fb
 have sa := wave_facts false ha
 have ca := wave_facts true ha
 have sb := wave_facts false hb
 have cb := wave_facts true hb
 have st := wave_facts false ht
 have ct := wave_facts true ht
 rw [te] at t1 t2
 simp only at t1 t2
 have hx := xr_in (n := midm a) (by omega) (by omega)
 have hy := xr_in (n := midm b) (by omega) (by omega)
 have hz := xr_in (n := midm a + midm b) (by omega) (by omega)
 have ez : xr (midm a + midm b) = xr (midm a) + xr (midm b) := by unfold xr; rw [Rat.intCast_add]; grind
 have ns := st.near (midm a + midm b) (by rw [te]; simp only; omega) (by rw [te]; simp only; omega)
 have nc := ct.near (midm a + midm b) (by rw [te]; simp only; omega) (by rw [te]; simp only; omega)
 have ad := add_cs hx hy
 rw [← ez] at ad
 have ad1 : -eps ≤ (FR true (xr (midm a)) * FR true (xr (midm b)) - FR false (xr (midm a)) * FR false (xr (midm b))) - FR true (xr (midm a + midm b)) ∧ (FR true (xr (midm a)) * FR true (xr (midm b)) - FR false (xr (midm a)) * FR false (xr (midm b))) - FR true (xr (midm a + midm b)) ≤ eps := ad.1
 have ad2 : -eps ≤ (FR false (xr (midm a)) * FR true (xr (midm b)) + FR true (xr (midm a)) * FR false (xr (midm b))) - FR false (xr (midm a + midm b)) ∧ (FR false (xr (midm a)) * FR true (xr (midm b)) + FR true (xr (midm a)) * FR false (xr (midm b))) - FR false (xr (midm a + midm b)) ≤ eps := ad.2
 have zs := sR_near hz false
 have zc := sR_near hz true
 have he := eps_30
 constructor
 · have p := sq_hd sa.f sa.l1 sa.h1 sa.m cb.f cb.l1 cb.h1 cb.m
   have q := sq_hd ca.f ca.l1 ca.h1 ca.m sb.f sb.l1 sb.h1 sb.m
   have s2 := add_two p.1 q.1
   have g := hd_add (fine_iff.1 s2.2).1 p.2 q.2
   have n1 := near_mul (sR_near hx false) (sR_near hy true)
   have n2 := near_mul (sR_near hx true) (sR_near hy false)
   unfold Hd at g
   refine meet_int st.f s2.2 (int_le (t := 1 / 2) ?_ (by grind)) (int_le (t := 1 / 2) ?_ (by grind))
   · grind
   · grind
 · have p := sq_hd ca.f ca.l1 ca.h1 ca.m cb.f cb.l1 cb.h1 cb.m
   have q := sq_hd sa.f sa.l1 sa.h1 sa.m sb.f sb.l1 sb.h1 sb.m
   have s2 := sub_ok p.1.f q.1.f (by have := p.1.l; have := q.1.h; omega) (by have := p.1.h; have := q.1.l; omega)
   have g := hd_sub (fine_iff.1 s2.2).1 p.2 q.2
   have n1 := near_mul (sR_near hx true) (sR_near hy true)
   have n2 := near_mul (sR_near hx false) (sR_near hy false)
   unfold Hd at g
   refine meet_int ct.f s2.2 (int_le (t := 1 / 2) ?_ (by grind)) (int_le (t := 1 / 2) ?_ (by grind))
   · grind
   · grind
theorem point_far {n : Int} (h1 : -4294967296 ≤ n) (h2 : n ≤ 4294967296) : holdsI (around 4294967296) (pointI n) = true := by
 have h := hd_point (n := n) (by omega) (by omega)
 refine far_holds h.2 ?_ ?_ <;> rw [h.1] <;> assumption
end Go.Wv
/-
 Sine and cosine, enclosed: turned about; how wide they are.
-/
namespace Go.Wv
open Go Go.RowKit Go.Sx Go.Nm Go.Wd Go.Qt Go.Iv Go.An
theorem cor_neg {a b : Iv} (fa : fine a = true) {p : Int} (h : Cor (negI a) b p) : Cor a b (-p) := by
 rw [(neg_ok fa).1] at h
 unfold Cor at *
 simp only at h
 rcases h with h | h | h | h
 · right; right; left; rw [h, Int.neg_mul, Int.neg_neg]
 · right; right; right; rw [h, Int.neg_mul, Int.neg_neg]
 · left; rw [h, Int.neg_mul, Int.neg_neg]
 · right; left; rw [h, Int.neg_mul, Int.neg_neg]
theorem cor_neg' {a b : Iv} (fa : fine a = true) {p : Int} (h : Cor a b p) : Cor (negI a) b (-p) := by
 rw [(neg_ok fa).1]
 unfold Cor at *
 simp only
 rcases h with h | h | h | h
 · right; right; left; rw [h, Int.neg_mul]
 · right; right; right; rw [h, Int.neg_mul]
 · left; rw [h, Int.neg_mul]
 · right; left; rw [h, Int.neg_mul]
theorem mul_neg {a b : Iv} (h : (mulI a b).bad = false) : mulI (negI a) b = negI (mulI a b) := by
 obtain ⟨fa, fb, hf, mo⟩ := mul_good h
 have fits : MulFits (negI a) b := fun p hp => by have := hf (-p) (cor_neg fa hp); omega
 have hn := neg_ok mo.ok
 refine (mul_ok (neg_ok fa).2 fb fits).unique ⟨hn.2, fun k => ?_, fun k => ?_⟩
 · rw [hn.1]
   have e := mo.hi (-k)
   constructor
   · intro hk p hp
     have := e.1 (by simp only at hk; omega) (-p) (cor_neg fa hp)
     omega
   · intro hk
     have := e.2 fun p hp => by have := hk (-p) (cor_neg' fa hp); omega
     simp only; omega
 · rw [hn.1]
   have e := mo.lo (-k)
   constructor
   · intro hk p hp
     have := e.1 (by simp only at hk; omega) (-p) (cor_neg fa hp)
     omega
   · intro hk
     have := e.2 fun p hp => by have := hk (-p) (cor_neg' fa hp); omega
     simp only; omega
theorem fq_cq_neg {p d : Int} (hd : 0 < d) : fq (-p) d = -cq p d ∧ cq (-p) d = -fq p d := by
 have key : ∀ q : Int, fq (-q) d = -cq q d := fun q => by
  have h1 := (le_fq (p := -q) (k := fq (-q) d) hd).1 (Int.le_refl _)
  have h2 := (cq_le (p := q) (k := cq q d) hd).1 (Int.le_refl _)
  have a : cq q d ≤ -fq (-q) d := (cq_le hd).2 (by rw [Int.neg_mul]; omega)
  have b : -cq q d ≤ fq (-q) d := (le_fq hd).2 (by rw [Int.neg_mul]; omega)
  omega
 refine ⟨key p, ?_⟩
 have := key (-p)
 rw [Int.neg_neg] at this
 omega
theorem part_neg {a : Iv} {d : Int} (hd : I64 d) (h0 : 0 < d) (h : (partI a (-1) d).bad = false) : partI (negI a) (-1) d = negI (partI a (-1) d) := by
 have hn : I64 (-1) := by unfold I64; omega
 have h' := h
 unfold partI at h
 cases hc : (fineL [a] && (byOk a.lo (-1) d && byOk a.hi (-1) d)) with
 | false => rw [hc] at h; cases h
 | true =>
  rw [hc] at h
  obtain ⟨f1, e1⟩ := told_good h
  have e : partI a (-1) d = partR a (-1) d := by unfold partI; rw [hc]; exact e1
  simp only [Bool.and_eq_true] at hc
  obtain ⟨fa, q1, q2⟩ := hc
  rw [fine1] at fa
  obtain ⟨a1, a2⟩ := fine64 fa
  have ra := fine_iff.1 fa
  obtain ⟨c1, d1⟩ := by_ok a1 hn hd q1
  obtain ⟨c2, d2⟩ := by_ok a2 hn hd q2
  have n := neg_ok fa
  have o1 := byOk_iff.1 q1
  have o2 := byOk_iff.1 q2
  have g1 := fq_cq_neg (p := a.lo * -1) h0
  have g2 := fq_cq_neg (p := a.hi * -1) h0
  rw [← Int.neg_mul] at g1 g2
  have p1 : byOk (-a.hi) (-1) d = true := byOk_iff.2 ⟨o1.1, by rw [g2.1]; omega, by rw [g2.2]; omega⟩
  have p2 : byOk (-a.lo) (-1) d = true := byOk_iff.2 ⟨o1.1, by rw [g1.1]; omega, by rw [g1.2]; omega⟩
  obtain ⟨c3, d3⟩ := by_ok (by unfold I64; omega) hn hd p1
  obtain ⟨c4, d4⟩ := by_ok (by unfold I64; omega) hn hd p2
  have fr : fine (partR a (-1) d) = true := f1
  have hneg := neg_ok fr
  have er : partR (negI a) (-1) d = negI (partR a (-1) d) := by
   rw [hneg.1, n.1]
   unfold partR wide2
   simp only
   rw [c1, d1, c2, d2, c3, d3, c4, d4, g1.1, g1.2, g2.1, g2.2]
   unfold mn mx
   congr 1
   · repeat' split
     all_goals omega
   · repeat' split
     all_goals omega
  have hfin : fine (partR (negI a) (-1) d) = true := by rw [er]; exact hneg.2
  rw [e, ← er]
  unfold partI
  rw [fine1, n.2, n.1]
  simp only
  rw [p1, p2]
  have : told (partR (negI a) (-1) d) = partR (negI a) (-1) d := told_ok hfin
  rw [n.1] at this
  exact this
theorem add_neg {a b : Iv} (h : (addI a b).bad = false) : addI (negI a) (negI b) = negI (addI a b) := by
 obtain ⟨fa, fb, fs, e⟩ := add_good h
 have rs := fine_iff.1 fs
 rw [e] at rs
 simp only at rs
 have n1 := neg_ok fa
 have n2 := neg_ok fb
 have n3 := neg_ok fs
 have := add_ok n1.2 n2.2 (by rw [n1.1, n2.1]; simp only; omega) (by rw [n1.1, n2.1]; simp only; omega)
 rw [this.1, n3.1, e, n1.1, n2.1]
 simp only [Iv.mk.injEq]
 exact ⟨by omega, by omega, trivial⟩
theorem neg_around {r : Int} (h0 : 0 ≤ r) (h1 : r ≤ 1152921504606846976) : negI (around r) = around r := by
 have e := around_eq h0 h1
 rw [(neg_ok e.2).1, e.1]
 simp only [Int.neg_neg]
theorem on_neg {s : Iv} (fs : fine s = true) : onI (negI s) = negI (onI s) ∨ (onI s).bad = true := by
 have e := around_eq (r := 1073741824) (by decide) (by decide)
 have n := neg_ok fs
 unfold onI
 cases hb : (meetI s (around 1073741824)).bad with
 | true => exact .inr rfl
 | false =>
  left
  unfold meetI at *
  rw [fine2.2 ⟨fs, e.2⟩] at hb ⊢
  rw [fine2.2 ⟨n.2, e.2⟩]
  simp only [cond_true] at *
  obtain ⟨f1, e1⟩ := told_good hb
  rw [e1, (neg_ok f1).1]
  have e2 : (⟨mx (negI s).lo (around 1073741824).lo, mn (negI s).hi (around 1073741824).hi, false⟩ : Iv) = ⟨-mn s.hi (around 1073741824).hi, -mx s.lo (around 1073741824).lo, false⟩ := by
   rw [n.1, e.1]
   unfold mn mx
   congr 1
   · split <;> split <;> simp only at * <;> omega
   · split <;> split <;> simp only at * <;> omega
  rw [e2]
  refine told_ok ?_
  have r := fine_iff.1 f1
  simp only at r
  exact fine_iff.2 ⟨rfl, by simp only; omega, by simp only; omega, by simp only; omega⟩
def tn (c : Bool) (a : Iv) : Iv := bif c then a else negI a
theorem q_neg {n : Int} (h1 : -4294967296 ≤ n) (h2 : n ≤ 4294967296) : qI (-n) = qI n := by
 have hp := hd_point (n := n) (by omega) (by omega)
 have hm := hd_point (n := -n) (by omega) (by omega)
 have q := q_facts h1 h2
 have en : pointI (-n) = negI (pointI n) := by rw [(neg_ok hp.2).1, hp.1, hm.1]
 unfold qI
 rw [en]
 have g1 : (mulI (pointI n) (pointI n)).bad = false := (fine_iff.1 q.1.f).1
 have g2 := mul_neg g1
 have f2 := neg_ok (show fine (mulI (pointI n) (pointI n)) = true from q.1.f)
 have g3 : (mulI (pointI n) (negI (pointI n))).bad = false := by rw [mul_comm', g2]; exact (fine_iff.1 f2.2).1
 rw [mul_neg g3, mul_comm' (pointI n) (negI (pointI n)), g2]
 exact neg_neg' q.1.f
theorem tm_neg (c : Bool) {n : Int} (h1 : -4294967296 ≤ n) (h2 : n ≤ 4294967296) : ∀ k, k ≤ 14 → tm c (-n) k = tn c (tm c n k)
 | 0, _ => by
  cases c with
  | true => rfl
  | false =>
   have hp := hd_point (n := n) (by omega) (by omega)
   have hm := hd_point (n := -n) (by omega) (by omega)
   show pointI (-n) = negI (pointI n)
   rw [(neg_ok hp.2).1, hp.1, hm.1]
 | k + 1, hk => by
  have ih := tm_neg c h1 h2 k (by omega)
  obtain ⟨b, _⟩ := tm_facts c h1 h2 k (by omega)
  obtain ⟨b2, _⟩ := tm_facts c h1 h2 (k + 1) hk
  obtain ⟨d1, _⟩ := dd_big c k
  obtain ⟨d5, _⟩ := dd_small c (k := k) (by omega)
  show partI (mulI (tm c (-n) k) (qI (-n))) (-1) (dd c k) = tn c (partI (mulI (tm c n k) (qI n)) (-1) (dd c k))
  rw [ih, q_neg h1 h2]
  cases c with
  | true => rfl
  | false =>
   have gp : (partI (mulI (tm false n k) (qI n)) (-1) (dd false k)).bad = false := (fine_iff.1 b2.f).1
   have gm : (mulI (tm false n k) (qI n)).bad = false := by
    obtain ⟨_, fm, _⟩ := part_facts (by unfold I64; omega) d5 gp
    exact (fine_iff.1 fm).1
   show partI (mulI (negI (tm false n k)) (qI n)) (-1) (dd false k) = negI _
   rw [mul_neg gm, part_neg d5 d1 gp]
theorem su_neg (c : Bool) {n : Int} (h1 : -4294967296 ≤ n) (h2 : n ≤ 4294967296) : ∀ k, k ≤ 13 → su c (-n) k = tn c (su c n k)
 | 0, _ => by
  cases c with
  | true => rfl
  | false => show pointI 0 = negI (pointI 0); decide
 | k + 1, hk => by
  have ih := su_neg c h1 h2 k (by omega)
  obtain ⟨b, _⟩ := su_facts c h1 h2 (k + 1) hk
  show addI (su c (-n) k) (tm c (-n) k) = tn c (addI (su c n k) (tm c n k))
  rw [ih, tm_neg c h1 h2 k (by omega)]
  cases c with
  | true => rfl
  | false => exact add_neg (fine_iff.1 b.f).1
theorem pt_neg (c : Bool) {n : Int} (h1 : -4294967296 ≤ n) (h2 : n ≤ 4294967296) : ptI c (-n) = tn c (ptI c n) := by
 obtain ⟨b, _⟩ := pt_facts c h1 h2
 obtain ⟨b13, _⟩ := tm_facts c h1 h2 13 (by omega)
 have hbad : c = false → (addI (su false n 13) (around (size (tm false n 13)))).bad = false := fun h => by subst h; exact (fine_iff.1 b.f).1
 unfold ptI
 rw [su_neg c h1 h2 13 (by omega), tm_neg c h1 h2 13 (by omega)]
 cases c with
 | true => simp only [tn, cond_true]
 | false =>
  have n13 := neg_ok b13.f
  have r13 := fine_iff.1 b13.f
  generalize tm false n 13 = t at *
  generalize su false n 13 = s at *
  have es : size (tn false t) = size t := by
   unfold size tn
   simp only [cond_false]
   rw [n13.1]
   unfold mx
   simp only
   split <;> split <;> omega
  have s0 : 0 ≤ size t := by
   have : t.hi ≤ size t ∧ -t.lo ≤ size t := mx_le.1 (Int.le_refl _)
   omega
  have s1 : size t ≤ 1152921504606846976 := mx_le.2 ⟨by omega, by omega⟩
  rw [es]
  have hb : (addI s (around (size t))).bad = false := hbad rfl
  simp only [tn, cond_false]
  rw [← add_neg hb, neg_around s0 s1]
theorem waveP_neg (c : Bool) {m r : Int} (h1 : -4294967296 ≤ m) (h2 : m ≤ 4294967296) (h0 : 0 ≤ r) (h3 : r ≤ 17179869184) : waveP c (-m) r = tn c (waveP c m r) := by
 obtain ⟨w1, w2, _⟩ := waveP_facts c h1 h2 h0 h3
 obtain ⟨pb, ph⟩ := pt_facts c h1 h2
 have o := on_facts (w := sR c (xr m)) pb.f ph (sR_eq c _) (FR_in (xr_in h1 h2) c)
 unfold waveP at *
 rw [pt_neg c h1 h2]
 cases c with
 | true => rfl
 | false =>
  show onI (addI (onI (negI (ptI false m))) (around r)) = negI (onI (addI (onI (ptI false m)) (around r)))
  have e1 : onI (negI (ptI false m)) = negI (onI (ptI false m)) := (on_neg pb.f).resolve_right (by rw [(fine_iff.1 o.1).1]; simp)
  have ga : (addI (onI (ptI false m)) (around r)).bad = false := by
   unfold onI at w1
   obtain ⟨g, _⟩ : fine (addI (meetI (ptI false m) (around 1073741824)) (around r)) = true ∧ True := by
    refine ⟨?_, trivial⟩
    have hm : (meetI (addI (meetI (ptI false m) (around 1073741824)) (around r)) (around 1073741824)).bad = false := (fine_iff.1 w1).1
    unfold meetI at hm
    cases hf : fineL [addI (meetI (ptI false m) (around 1073741824)) (around r), around 1073741824] with
    | true => exact (fine2.1 hf).1
    | false =>
     unfold meetI at hf
     rw [hf] at hm
     cases hm
   exact (fine_iff.1 g).1
  have fa := (add_good ga).2.2.1
  rw [e1]
  conv => lhs; rw [← neg_around h0 (show r ≤ 1152921504606846976 by omega)]
  rw [add_neg ga]
  exact (on_neg fa).resolve_right (by rw [(fine_iff.1 w1).1]; simp)
theorem mid_neg {a : Iv} (fa : fine a = true) : midm (negI a) = -midm a ∧ midr (negI a) = midr a := by
 have n := neg_ok fa
 have e : midm (negI a) = -midm a := by
  unfold midm
  rw [n.1, nq2, nq2]
  simp only
  split <;> split <;> (try split) <;> (try split) <;> omega
 refine ⟨e, ?_⟩
 unfold midr
 rw [e, n.1]
 simp only
 unfold mx
 split <;> split <;> omega
theorem wave_neg (c : Bool) {a : Iv} (h : holdsI (around 4294967296) a = true) : holdsI (around 4294967296) (negI a) = true ∧ waveI c (negI a) = tn c (waveI c a) := by
 obtain ⟨fa, b1, b2⟩ := holds_far h
 have n := neg_ok fa
 have hn : holdsI (around 4294967296) (negI a) = true := far_holds n.2 (by rw [n.1]; simp only; omega) (by rw [n.1]; simp only; omega)
 obtain ⟨m1, m2, m3, m4, m5, m6⟩ := mid_spec fa
 refine ⟨hn, ?_⟩
 rw [wave_eq c h, wave_eq c hn, (mid_neg fa).1, (mid_neg fa).2]
 exact waveP_neg c (by omega) (by omega) m5 (by omega)
theorem mul_wide {a b : Iv} {M K w e j : Int} (ha : Bd a M) (hb : Bd b K) (hw : a.hi - a.lo ≤ w) (he : b.hi - b.lo ≤ e) (h : w * K + M * e ≤ j * 1073741824) (hg : (mulI a b).bad = false) : (mulI a b).hi - (mulI a b).lo ≤ j + 1 := by
 obtain ⟨fa, fb, _, mo⟩ := mul_good hg
 have ra := fine_iff.1 fa
 have rb := fine_iff.1 fb
 have l1 := ha.l; have h1 := ha.h; have l2 := hb.l; have h2 := hb.h
 have key : ∀ x y u v : Int, a.lo ≤ x → x ≤ a.hi → b.lo ≤ y → y ≤ b.hi → a.lo ≤ u → u ≤ a.hi → b.lo ≤ v → v ≤ b.hi → x * y - u * v ≤ w * K + M * e := by
  intro x y u v x1 x2 y1 y2 u1 u2 v1 v2
  have e1 : x * y - u * v = (x - u) * y + u * (y - v) := by rw [Int.sub_mul, Int.mul_sub]; omega
  have p1 : (x - u) * y ≤ w * K := by
   have q1 := Int.mul_nonneg (show 0 ≤ w - (x - u) by omega) (show 0 ≤ K - y by omega)
   have q2 := Int.mul_nonneg (show 0 ≤ w + (x - u) by omega) (show 0 ≤ K + y by omega)
   have q3 := Int.mul_nonneg (show 0 ≤ w - (x - u) by omega) (show 0 ≤ K + y by omega)
   have q4 := Int.mul_nonneg (show 0 ≤ w + (x - u) by omega) (show 0 ≤ K - y by omega)
   simp only [Int.sub_mul, Int.mul_sub, Int.add_mul, Int.mul_add] at q1 q2 q3 q4 ⊢
   omega
  have p2 : u * (y - v) ≤ M * e := by
   have q1 := Int.mul_nonneg (show 0 ≤ M - u by omega) (show 0 ≤ e - (y - v) by omega)
   have q2 := Int.mul_nonneg (show 0 ≤ M + u by omega) (show 0 ≤ e + (y - v) by omega)
   have q3 := Int.mul_nonneg (show 0 ≤ M - u by omega) (show 0 ≤ e + (y - v) by omega)
   have q4 := Int.mul_nonneg (show 0 ≤ M + u by omega) (show 0 ≤ e - (y - v) by omega)
   simp only [Int.sub_mul, Int.mul_sub, Int.add_mul, Int.mul_add] at q1 q2 q3 q4 ⊢
   omega
  omega
 have corn : ∀ p, Cor a b p → ∃ x y, p = x * y ∧ a.lo ≤ x ∧ x ≤ a.hi ∧ b.lo ≤ y ∧ y ≤ b.hi := by
  rintro p (h | h | h | h)
  · exact ⟨_, _, h, by omega, by omega, by omega, by omega⟩
  · exact ⟨_, _, h, by omega, by omega, by omega, by omega⟩
  · exact ⟨_, _, h, by omega, by omega, by omega, by omega⟩
  · exact ⟨_, _, h, by omega, by omega, by omega, by omega⟩
 have hex : ∃ p, Cor a b p ∧ p < ((mulI a b).lo + 1) * 1073741824 := Classical.byContradiction fun hno => by
  have := (mo.lo ((mulI a b).lo + 1)).2 fun p hp => Int.not_lt.1 fun hlt => hno ⟨p, hp, hlt⟩
  omega
 obtain ⟨p0, hp0, hlt⟩ := hex
 obtain ⟨x0, y0, rfl, g1, g2, g3, g4⟩ := corn p0 hp0
 have : (mulI a b).hi ≤ (mulI a b).lo + 1 + j := (mo.hi _).2 fun p hp => by
  obtain ⟨x, y, rfl, k1, k2, k3, k4⟩ := corn p hp
  have := key x y x0 y0 k1 k2 k3 k4 g1 g2 g3 g4
  rw [Int.add_mul ((mulI a b).lo + 1)]
  omega
 omega
theorem part_wide {a : Iv} {d w j : Int} (hd : I64 d) (h0 : 0 < d) (hw : a.hi - a.lo ≤ w) (h : w ≤ j * d) (hg : (partI a (-1) d).bad = false) : (partI a (-1) d).hi - (partI a (-1) d).lo ≤ j + 1 := by
 have hn : I64 (-1) := by unfold I64; omega
 have h' := hg
 unfold partI at hg
 cases hc : (fineL [a] && (byOk a.lo (-1) d && byOk a.hi (-1) d)) with
 | false => rw [hc] at hg; cases hg
 | true =>
  rw [hc] at hg
  obtain ⟨f1, e1⟩ := told_good hg
  have e : partI a (-1) d = partR a (-1) d := by unfold partI; rw [hc]; exact e1
  simp only [Bool.and_eq_true] at hc
  obtain ⟨fa, q1, q2⟩ := hc
  rw [fine1] at fa
  have ra := fine_iff.1 fa
  obtain ⟨a1, a2⟩ := fine64 fa
  obtain ⟨c1, d1⟩ := by_ok a1 hn hd q1
  obtain ⟨c2, d2⟩ := by_ok a2 hn hd q2
  rw [e]
  unfold partR wide2
  rw [c1, d1, c2, d2]
  simp only
  have key : ∀ x y : Int, y - x ≤ w → cq (x * -1) d ≤ fq (y * -1) d + 1 + j := fun x y hxy => by
   refine (cq_le h0).2 ?_
   have : ¬ (fq (y * -1) d + 1 ≤ fq (y * -1) d) := by omega
   rw [le_fq h0] at this
   rw [Int.add_mul (fq (y * -1) d + 1)]
   omega
  have k1 := key a.lo a.lo (by omega)
  have k2 := key a.lo a.hi hw
  have k3 := key a.hi a.lo (by omega)
  have k4 := key a.hi a.hi (by omega)
  generalize fq (a.lo * -1) d = f1' at *
  generalize fq (a.hi * -1) d = f2' at *
  generalize cq (a.lo * -1) d = g1' at *
  generalize cq (a.hi * -1) d = g2' at *
  unfold mn mx
  repeat' split
  all_goals omega
theorem q_wide {n : Int} (h1 : -4294967296 ≤ n) (h2 : n ≤ 4294967296) : (qI n).hi - (qI n).lo ≤ 1 := by
 have b := bd_point h1 h2 (by decide)
 have hp := hd_point (n := n) (by omega) (by omega)
 have q := q_facts h1 h2
 have := mul_wide (w := 0) (e := 0) (j := 0) b b (by rw [hp.1]; simp only; omega) (by rw [hp.1]; simp only; omega) (by decide) (fine_iff.1 q.1.f).1
 exact this
def mw (c : Bool) : Nat → Int × Int
 | 0 => (bif c then 1073741824 else 4294967296, 0)
 | k + 1 => ((16 * (mw c k).1 + dd c k - 1) / dd c k, (16 * (mw c k).2 + ((mw c k).1 + 1073741823) / 1073741824 + 1 + dd c k - 1) / dd c k + 1)
def mwB (c : Bool) : Bool := (List.range 14).all fun k => decide (0 ≤ (mw c k).1) && (decide ((mw c k).1 ≤ 68719476736) && decide (0 ≤ (mw c k).2))
theorem mw_ok (c : Bool) {k : Nat} (h : k ≤ 13) : 0 ≤ (mw c k).1 ∧ (mw c k).1 ≤ 68719476736 ∧ 0 ≤ (mw c k).2 := by
 have hb : mwB c = true := by cases c <;> decide +kernel
 have := List.all_eq_true.1 hb k (List.mem_range.2 (by omega))
 simpa only [Bool.and_eq_true, decide_eq_true_eq] using this
theorem up_div {x d : Int} (h : 0 < d) : x ≤ (x + d - 1) / d * d := by
 have e := Int.mul_ediv_add_emod (x + d - 1) d
 have := Int.emod_lt_of_pos (x + d - 1) h
 rw [Int.mul_comm] at e
 omega
theorem tm_wide (c : Bool) {n : Int} (h1 : -4294967296 ≤ n) (h2 : n ≤ 4294967296) : ∀ k, k ≤ 13 → Bd (tm c n k) (mw c k).1 ∧ (tm c n k).hi - (tm c n k).lo ≤ (mw c k).2
 | 0, _ => by
  cases c with
  | true =>
   have e : tm true n 0 = ⟨1073741824, 1073741824, false⟩ := by show ofI 1 = _; decide
   rw [e]
   exact ⟨⟨by decide, by decide, by decide⟩, by decide⟩
  | false =>
   have hp := hd_point (n := n) (by omega) (by omega)
   refine ⟨bd_point h1 h2 (by decide), ?_⟩
   show (pointI n).hi - (pointI n).lo ≤ 0
   rw [hp.1]; simp only; omega
 | k + 1, hk => by
  obtain ⟨b, hw⟩ := tm_wide c h1 h2 k (by omega)
  obtain ⟨qb, _, _⟩ := q_facts h1 h2
  have qw := q_wide h1 h2
  obtain ⟨d1, _⟩ := dd_big c k
  obtain ⟨d5, _⟩ := dd_small c (k := k) (by omega)
  obtain ⟨m0, m1, m2⟩ := mw_ok c (k := k) (by omega)
  have m := Bd.mul b qb (k := 16 * (mw c k).1) (by omega) (by omega)
  have hu := up_div (x := (mw c k).1) (d := 1073741824) (by decide)
  have mwid := mul_wide b qb hw qw (j := 16 * (mw c k).2 + ((mw c k).1 + 1073741823) / 1073741824) (by
   rw [Int.add_mul]
   have e : (mw c k).1 + 1073741824 - 1 = (mw c k).1 + 1073741823 := by omega
   rw [e] at hu
   omega) (fine_iff.1 m.1.f).1
  have p := Bd.part m.1 d5 d1 (k := (mw c (k + 1)).1) (up_div d1) (by have := (mw_ok c (k := k + 1) hk).2.1; omega)
  refine ⟨p, ?_⟩
  exact part_wide d5 d1 mwid (up_div d1) (fine_iff.1 p.f).1
def sw (c : Bool) : Nat → Int
 | 0 => 0
 | k + 1 => sw c k + (mw c k).2
theorem su_wide (c : Bool) {n : Int} (h1 : -4294967296 ≤ n) (h2 : n ≤ 4294967296) : ∀ k, k ≤ 13 → (su c n k).hi - (su c n k).lo ≤ sw c k
 | 0, _ => by
  show (pointI 0).hi - (pointI 0).lo ≤ 0
  decide
 | k + 1, hk => by
  have ih := su_wide c h1 h2 k (by omega)
  obtain ⟨_, tw⟩ := tm_wide c h1 h2 k (by omega)
  obtain ⟨b, _⟩ := su_facts c h1 h2 (k + 1) hk
  obtain ⟨_, _, _, e⟩ := add_good (show (addI (su c n k) (tm c n k)).bad = false from (fine_iff.1 b.f).1)
  show (addI (su c n k) (tm c n k)).hi - (addI (su c n k) (tm c n k)).lo ≤ sw c k + (mw c k).2
  rw [e]
  simp only
  omega
theorem pt_wide (c : Bool) {n : Int} (h1 : -4294967296 ≤ n) (h2 : n ≤ 4294967296) : (ptI c n).hi - (ptI c n).lo ≤ 60 := by
 have s := su_wide c h1 h2 13 (by omega)
 obtain ⟨t, _⟩ := tm_wide c h1 h2 13 (by omega)
 obtain ⟨b, _⟩ := pt_facts c h1 h2
 obtain ⟨_, _, _, e⟩ := add_good (show (addI (su c n 13) (around (size (tm c n 13)))).bad = false from (fine_iff.1 b.f).1)
 have rt := fine_iff.1 t.f
 have l := t.l
 have u := t.h
 have s0 : 0 ≤ size (tm c n 13) := by
  have : (tm c n 13).hi ≤ size (tm c n 13) ∧ -(tm c n 13).lo ≤ size (tm c n 13) := mx_le.1 (Int.le_refl _)
  omega
 have s1 : size (tm c n 13) ≤ (mw c 13).1 := mx_le.2 ⟨u, by omega⟩
 have hm : (mw c 13).1 ≤ 68719476736 := (mw_ok c (k := 13) (by omega)).2.1
 have ar := around_eq s0 (by omega)
 have hnum : sw c 13 + 2 * (mw c 13).1 ≤ 60 := by cases c <;> decide +kernel
 show (addI (su c n 13) (around (size (tm c n 13)))).hi - (addI (su c n 13) (around (size (tm c n 13)))).lo ≤ 60
 rw [e, ar.1]
 simp only
 omega
theorem wave_wide (c : Bool) {a : Iv} (h : holdsI (around 4294967296) a = true) : (waveI c a).hi - (waveI c a).lo ≤ 60 + 2 * midr a := by
 obtain ⟨fa, b1, b2⟩ := holds_far h
 obtain ⟨m1, m2, m3, m4, m5, m6⟩ := mid_spec fa
 have p := pt_wide c (n := midm a) (by omega) (by omega)
 obtain ⟨pb, ph⟩ := pt_facts c (n := midm a) (by omega) (by omega)
 have o := on_facts (w := sR c (xr (midm a))) pb.f ph (sR_eq c _) (FR_in (xr_in (by omega) (by omega)) c)
 obtain ⟨_, w2, _⟩ := waveP_facts c (m := midm a) (r := midr a) (by omega) (by omega) m5 (by omega)
 rw [wave_eq c h, w2, o.2.2]
 simp only
 generalize (ptI c (midm a)).lo = x at *
 generalize (ptI c (midm a)).hi = y at *
 generalize midr a = r at *
 have e1 : x ≤ mx x (-1073741824) := (mx_le.1 (Int.le_refl _)).1
 have e2 : mn y 1073741824 ≤ y := (mn_ge.1 (Int.le_refl _)).1
 have e3 : mx x (-1073741824) - r ≤ mx (mx x (-1073741824) - r) (-1073741824) := (mx_le.1 (Int.le_refl _)).1
 have e4 : mn (mn y 1073741824 + r) 1073741824 ≤ mn y 1073741824 + r := (mn_ge.1 (Int.le_refl _)).1
 omega
end Go.Wv
