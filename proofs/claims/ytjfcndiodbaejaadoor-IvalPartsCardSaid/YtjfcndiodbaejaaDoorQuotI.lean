/-
  Contracts of package quot, ninth part: Floor, Rest, Ceil, Near. Printed by quotI.py.
-/
import Derived.Test.YtjfcndiodbaejaaDoorQuotH
set_option maxRecDepth 100000
namespace Go.Qt
open Go Go.RowKit Go.Sx Go.Nm Go.Wd Go.Proofs

/-! ### What they tell, and which error -/
def qe (a b : Int) : Int := if b = 0 then 30 else if a = -HH ∨ b = -HH then 20 else 0
def qv (f : Int → Int → Int) (a b : Int) : Int := if qe a b = 0 then f a b else 0
def cq (a b : Int) : Int := if fr a b = 0 then fq a b else fq a b + 1
/-- How the rest is to what is left. -/
def nc (a b : Int) : Int := cmp3 (fr a b) (b - fr a b) * cmp3 b 0
def nq (a b : Int) : Int := if nc a b > 0 ∨ nc a b = 0 ∧ 0 ≤ fq a b then fq a b + 1 else fq a b
def quoV (f : Int → Int → Int) : List Value → Value
  | [x, y] => .tuple #[W (qv f (tI x) (tI y)), .int .i64 (qe (tI x) (tI y))]
  | _ => undef
noncomputable def Qe : Env P := ⟨wideC, [], 10, [toldD]⟩
noncomputable def Qn : Env P := ⟨⟨[must, sure, floor, shift] ++ wideC, []⟩, [], 10, [toldD]⟩
theorem fl_facts {a b : Int} (ha : Sm a) (hb : Sm b) (h : b ≠ 0) : b * fq a b + fr a b = a ∧ (0 < b → 0 ≤ fr a b ∧ fr a b < b) ∧ (b < 0 → fr a b ≤ 0 ∧ b < fr a b) ∧ InR (fq a b) ∧ InR (fr a b) := by
  unfold Sm at ha hb
  have hH : HH = 57896044618658097711785492504343953926634992332820282019728792003956564819968 := rfl
  unfold fq fr
  by_cases h1 : 0 < b
  · rw [if_pos h1, if_pos h1]
    have e := Int.mul_ediv_add_emod a b
    have r0 := Int.emod_nonneg a (b := b) (by omega)
    have r1 := Int.emod_lt_of_pos a h1
    refine ⟨e, fun _ => ⟨r0, r1⟩, fun h => absurd h (by omega), ?_, by unfold InR; omega⟩
    by_cases h2 : 0 ≤ a
    · obtain ⟨d0, d1, _⟩ := div_bound h2 h1
      unfold InR; omega
    · obtain ⟨g1, _⟩ := neg_div (a := a) h1 (by omega)
      obtain ⟨d0, d1, _⟩ := div_bound (a := -(a + 1)) (b := b) (by omega) h1
      unfold InR; omega
  · rw [if_neg h1, if_neg h1]
    have e := Int.mul_ediv_add_emod (-a) (-b)
    have r0 := Int.emod_nonneg (-a) (b := -b) (by omega)
    have r1 := Int.emod_lt_of_pos (-a) (b := -b) (by omega)
    rw [Int.neg_mul] at e
    refine ⟨by omega, fun h => absurd h h1, fun _ => ⟨by omega, by omega⟩, ?_, by unfold InR; omega⟩
    by_cases h2 : 0 ≤ -a
    · obtain ⟨d0, d1, _⟩ := div_bound (a := -a) (b := -b) h2 (by omega)
      unfold InR; omega
    · obtain ⟨g1, _⟩ := neg_div (a := -a) (b := -b) (by omega) (by omega)
      obtain ⟨d0, d1, _⟩ := div_bound (a := -(-a + 1)) (b := -b) (by omega) (by omega)
      unfold InR; omega
/-- Where there is a rest, one more is within. -/
theorem up_in {a b : Int} (ha : Sm a) (hb : Sm b) (h : b ≠ 0) (hr : fr a b ≠ 0) : InR (fq a b + 1) := by
  obtain ⟨e, f1, f2, f3, f4⟩ := fl_facts ha hb h
  unfold Sm at ha hb
  have hH : HH = 57896044618658097711785492504343953926634992332820282019728792003956564819968 := rfl
  unfold InR at *
  generalize fq a b = q at *
  generalize fr a b = r at *
  refine ⟨by omega, ?_⟩
  by_cases hq : q ≤ 0
  · omega
  by_cases h1 : 0 < b
  · have : 2 * q ≤ b * q := Int.mul_le_mul_of_nonneg_right (by omega) (by omega)
    omega
  · have : 2 * q ≤ (-b) * q := Int.mul_le_mul_of_nonneg_right (by omega) (by omega)
    rw [Int.neg_mul] at this
    omega
theorem floor_at {a b : Int} (ha : Sm a) (hb : Sm b) (h : b ≠ 0) : floorP [W a, W b] := by
  have i1 : InR a := inR_of ha
  have i2 : InR b := inR_of hb
  exact ⟨⟨_, rfl⟩, ⟨_, rfl⟩, by rw [tI_in i1]; exact ha, by rw [tI_in i2]; exact hb, by rw [tI_in i2]; exact h⟩
theorem qe_ok {a b : Int} (ha : Sm a) (hb : Sm b) (h : b ≠ 0) : qe a b = 0 := by unfold qe Sm at *; rw [if_neg h, if_neg (by omega)]
theorem nwn {a c : Int} (ha : InR a) (hc : InR c) (h : a ≠ c) : (weq a c) = false := by
  have := nw ha hc h
  simpa using this
theorem nnw {a c : Int} (ha : InR a) (hc : InR c) (h : a ≠ c) : (!(!(weq a c))) = false := by rw [nw ha hc h]; rfl
theorem cmp_wrap (x y u v : Int) : IntKind.i64.wrap (cmp3 x y * cmp3 u v) = cmp3 x y * cmp3 u v := by
  unfold cmp3
  split <;> split <;> (try split) <;> (try split) <;> rfl
theorem Floor_run (a b : Int) : runF P Qn 3 73 [W a, W b] [] =
  some (.tuple #[W (fq (tI (W a)) (tI (W b))), .int .i64 0],
    [floorP [W a, W b]]) := by kernel_rfl
theorem Floor_leaf (a b : Int) (ha : Sm a) (hb : Sm b) (h : b ≠ 0)  : Gives P 73 #[W a, W b] (.tuple #[W (fq a b), .int .i64 0]) := by
  have hH : HH = 57896044618658097711785492504343953926634992332820282019728792003956564819968 := rfl
  have i1 : InR a := inR_of ha
  have i2 : InR b := inR_of hb
  obtain ⟨f0, f1, f2, f3, f4⟩ := fl_facts ha hb h
  have e0 : tI (W a) = a := tI_in i1
  have e1 : tI (W b) = b := tI_in i2
  have R := Floor_run a b
  rw [e0, e1] at R
  refine gives_of_run mo R (ps_cons (floor_at ha hb h) ps_nil) ?_
  rfl
theorem Ceil0_run (a b : Int) : runF P Qn 4 74 [W a, W b] (.b false :: []) =
  some (.tuple #[W (fq (tI (W a)) (tI (W b))), .int .i64 0],
    [floorP [W a, W b],
     (!(weq (fr (tI (W a)) (tI (W b))) 0)) = false]) := by kernel_rfl
theorem Ceil0_leaf (a b : Int) (ha : Sm a) (hb : Sm b) (h : b ≠ 0) (hr : fr a b = 0) : Gives P 74 #[W a, W b] (.tuple #[W (cq a b), .int .i64 0]) := by
  have hH : HH = 57896044618658097711785492504343953926634992332820282019728792003956564819968 := rfl
  have i1 : InR a := inR_of ha
  have i2 : InR b := inR_of hb
  obtain ⟨f0, f1, f2, f3, f4⟩ := fl_facts ha hb h
  have qr : (!(weq (fr a b) 0)) = false := by rw [hr]; rfl
  have e0 : tI (W a) = a := tI_in i1
  have e1 : tI (W b) = b := tI_in i2
  have R := Ceil0_run a b
  rw [e0, e1] at R
  refine gives_of_run mo R (ps_cons (floor_at ha hb h) (ps_cons qr ps_nil)) ?_
  unfold cq
  rw [if_pos hr]
theorem Ceil1_run (a b : Int) : runF P Qn 4 74 [W a, W b] (.b true :: []) =
  some (.tuple #[W (tI (W (fq (tI (W a)) (tI (W b)))) + tI (W 1)), .int .i64 0],
    [floorP [W a, W b],
     (!(weq (fr (tI (W a)) (tI (W b))) 0)) = true,
     ofP [.int .i64 1],
     P2 [W (fq (tI (W a)) (tI (W b))), W 1],
     sureP [W (tI (W (fq (tI (W a)) (tI (W b)))) + tI (W 1)), .bool (!inRB (tI (W (fq (tI (W a)) (tI (W b)))) + tI (W 1)))]]) := by kernel_rfl
theorem Ceil1_leaf (a b : Int) (ha : Sm a) (hb : Sm b) (h : b ≠ 0) (hr : fr a b ≠ 0) : Gives P 74 #[W a, W b] (.tuple #[W (cq a b), .int .i64 0]) := by
  have hH : HH = 57896044618658097711785492504343953926634992332820282019728792003956564819968 := rfl
  have i1 : InR a := inR_of ha
  have i2 : InR b := inR_of hb
  obtain ⟨f0, f1, f2, f3, f4⟩ := fl_facts ha hb h
  have qr : (!(weq (fr a b) 0)) = true := nw f4 inR_0 hr
  have e0 : tI (W a) = a := tI_in i1
  have e1 : tI (W b) = b := tI_in i2
  have e2 : tI (W (fq a b)) = fq a b := tI_in f3
  have e3 : tI (W 1) = 1 := tI_in (by unfold InR; decide)
  have R := Ceil1_run a b
  rw [e0, e1, e2, e3] at R
  refine gives_of_run mo R (ps_cons (floor_at ha hb h) (ps_cons qr (ps_cons ⟨by decide, by decide⟩ (ps_cons (P2_W _ _) (ps_cons (sure_ok (up_in ha hb h hr)) ps_nil))))) ?_
  unfold cq
  rw [if_neg hr]
theorem nc_rest {a b : Int} (ha : Sm a) (hb : Sm b) (h : b ≠ 0) (hc : 0 ≤ nc a b) : fr a b ≠ 0 := by
  obtain ⟨f0, f1, f2, f3, f4⟩ := fl_facts ha hb h
  intro e
  unfold nc at hc
  rw [e] at hc
  by_cases h1 : 0 < b
  · have e1 : cmp3 0 (b - 0) = -1 := by unfold cmp3; omega
    have e2 : cmp3 b 0 = 1 := by unfold cmp3; omega
    rw [e1, e2] at hc
    omega
  · have e1 : cmp3 0 (b - 0) = 1 := by unfold cmp3; omega
    have e2 : cmp3 b 0 = -1 := by unfold cmp3; omega
    rw [e1, e2] at hc
    omega
theorem left_in {a b : Int} (ha : Sm a) (hb : Sm b) (h : b ≠ 0) : InR (b - fr a b) := by
  obtain ⟨f0, f1, f2, f3, f4⟩ := fl_facts ha hb h
  unfold InR Sm at *
  omega
theorem FloorZ_run (a : Int) : runF P Qe 5 73 [W a, W 0] [] =
  some (.tuple #[W 0, .int .i64 30],
    []) := by kernel_rfl
theorem FloorZ_leaf (a : Int)  : Gives P 73 #[W a, W 0] (.tuple #[W 0, .int .i64 30]) := by
  have R := FloorZ_run a
  refine gives_of_run mo R ps_nil ?_
  rfl
theorem FloorA_run (b : Int) : runF P Qe 5 73 [W (-57896044618658097711785492504343953926634992332820282019728792003956564819968), W b] (.b false :: []) =
  some (.tuple #[W 0, .int .i64 20],
    [(!(!(weq b 0))) = false]) := by kernel_rfl
theorem FloorA_leaf (b : Int) (hb : InR b) (h : b ≠ 0) : Gives P 73 #[W (-57896044618658097711785492504343953926634992332820282019728792003956564819968), W b] (.tuple #[W 0, .int .i64 20]) := by
  have R := FloorA_run b
  refine gives_of_run mo R (ps_cons (nnw (by assumption) (by unfold InR; decide) (by assumption)) ps_nil) ?_
  rfl
theorem FloorB_run (a : Int) : runF P Qe 5 73 [W a, W (-57896044618658097711785492504343953926634992332820282019728792003956564819968)] (.lit :: (.b true :: [])) =
  some (.tuple #[W 0, .int .i64 20],
    [(!(weq a (-57896044618658097711785492504343953926634992332820282019728792003956564819968))) = true]) := by kernel_rfl
theorem FloorB_leaf (a : Int) (ha : InR a) (h : a ≠ -57896044618658097711785492504343953926634992332820282019728792003956564819968) : Gives P 73 #[W a, W (-57896044618658097711785492504343953926634992332820282019728792003956564819968)] (.tuple #[W 0, .int .i64 20]) := by
  have R := FloorB_run a
  refine gives_of_run mo R (ps_cons (nw (by assumption) (by unfold InR; decide) (by assumption)) ps_nil) ?_
  rfl
theorem Floor_all {a b : Int} (i1 : InR a) (i2 : InR b) : Gives P 73 #[W a, W b] (.tuple #[W (qv fq a b), .int .i64 (qe a b)]) := by
  have hH : HH = 57896044618658097711785492504343953926634992332820282019728792003956564819968 := rfl
  by_cases h : b = 0
  · subst h
    have e : qe a 0 = 30 := rfl
    unfold qv
    rw [e]
    exact FloorZ_leaf a
  by_cases h1 : a = -HH
  · subst h1
    have e : qe (-HH) b = 20 := by unfold qe; rw [if_neg h, if_pos (.inl rfl)]
    unfold qv
    rw [e]
    exact FloorA_leaf b i2 h
  by_cases h2 : b = -HH
  · subst h2
    have e : qe a (-HH) = 20 := by unfold qe; rw [if_neg h, if_pos (.inr rfl)]
    unfold qv
    rw [e]
    exact FloorB_leaf a i1 h1
  · have ha : Sm a := by unfold InR Sm at *; omega
    have hb : Sm b := by unfold InR Sm at *; omega
    have e := qe_ok ha hb h
    unfold qv
    rw [e, if_pos rfl]
    exact Floor_leaf _ _ ha hb h
theorem Floor_gives (args : List Value) (h : P2 args) : Gives P 73 args.toArray (quoV fq args) := by
  unfold P2 at h
  split at h
  · rename_i x y
    obtain ⟨hx, hy⟩ := h
    obtain ⟨ex, rx⟩ := isW_in hx
    obtain ⟨ey, ry⟩ := isW_in hy
    have key := Floor_all rx ry
    rw [← ex, ← ey] at key
    exact key
  · exact h.elim
noncomputable def cFloor : Ctr P := ⟨73, P2, quoV fq, Floor_gives⟩
theorem CeilZ_run (a : Int) : runF P Qe 5 74 [W a, W 0] [] =
  some (.tuple #[W 0, .int .i64 30],
    []) := by kernel_rfl
theorem CeilZ_leaf (a : Int)  : Gives P 74 #[W a, W 0] (.tuple #[W 0, .int .i64 30]) := by
  have R := CeilZ_run a
  refine gives_of_run mo R ps_nil ?_
  rfl
theorem CeilA_run (b : Int) : runF P Qe 5 74 [W (-57896044618658097711785492504343953926634992332820282019728792003956564819968), W b] (.b false :: []) =
  some (.tuple #[W 0, .int .i64 20],
    [(!(!(weq b 0))) = false]) := by kernel_rfl
theorem CeilA_leaf (b : Int) (hb : InR b) (h : b ≠ 0) : Gives P 74 #[W (-57896044618658097711785492504343953926634992332820282019728792003956564819968), W b] (.tuple #[W 0, .int .i64 20]) := by
  have R := CeilA_run b
  refine gives_of_run mo R (ps_cons (nnw (by assumption) (by unfold InR; decide) (by assumption)) ps_nil) ?_
  rfl
theorem CeilB_run (a : Int) : runF P Qe 5 74 [W a, W (-57896044618658097711785492504343953926634992332820282019728792003956564819968)] (.lit :: (.b true :: [])) =
  some (.tuple #[W 0, .int .i64 20],
    [(!(weq a (-57896044618658097711785492504343953926634992332820282019728792003956564819968))) = true]) := by kernel_rfl
theorem CeilB_leaf (a : Int) (ha : InR a) (h : a ≠ -57896044618658097711785492504343953926634992332820282019728792003956564819968) : Gives P 74 #[W a, W (-57896044618658097711785492504343953926634992332820282019728792003956564819968)] (.tuple #[W 0, .int .i64 20]) := by
  have R := CeilB_run a
  refine gives_of_run mo R (ps_cons (nw (by assumption) (by unfold InR; decide) (by assumption)) ps_nil) ?_
  rfl
theorem Ceil_all {a b : Int} (i1 : InR a) (i2 : InR b) : Gives P 74 #[W a, W b] (.tuple #[W (qv cq a b), .int .i64 (qe a b)]) := by
  have hH : HH = 57896044618658097711785492504343953926634992332820282019728792003956564819968 := rfl
  by_cases h : b = 0
  · subst h
    have e : qe a 0 = 30 := rfl
    unfold qv
    rw [e]
    exact CeilZ_leaf a
  by_cases h1 : a = -HH
  · subst h1
    have e : qe (-HH) b = 20 := by unfold qe; rw [if_neg h, if_pos (.inl rfl)]
    unfold qv
    rw [e]
    exact CeilA_leaf b i2 h
  by_cases h2 : b = -HH
  · subst h2
    have e : qe a (-HH) = 20 := by unfold qe; rw [if_neg h, if_pos (.inr rfl)]
    unfold qv
    rw [e]
    exact CeilB_leaf a i1 h1
  · have ha : Sm a := by unfold InR Sm at *; omega
    have hb : Sm b := by unfold InR Sm at *; omega
    have e := qe_ok ha hb h
    unfold qv
    rw [e, if_pos rfl]
    by_cases hr : fr a b = 0
    · exact Ceil0_leaf _ _ ha hb h hr
    · exact Ceil1_leaf _ _ ha hb h hr
theorem Ceil_gives (args : List Value) (h : P2 args) : Gives P 74 args.toArray (quoV cq args) := by
  unfold P2 at h
  split at h
  · rename_i x y
    obtain ⟨hx, hy⟩ := h
    obtain ⟨ex, rx⟩ := isW_in hx
    obtain ⟨ey, ry⟩ := isW_in hy
    have key := Ceil_all rx ry
    rw [← ex, ← ey] at key
    exact key
  · exact h.elim
noncomputable def cCeil : Ctr P := ⟨74, P2, quoV cq, Ceil_gives⟩
end Go.Qt
