/-
  Contracts of package quot, tenth part: Left, Right, Ints. Printed by quotJ.py.
-/
import Derived.Test.YtcddfemcjmoolaaDoorQuotI
namespace Go.Qt
open Go Go.RowKit Go.Sx Go.Nm Go.Wd Go.Proofs

def le (a n : Int) : Int := if n < 0 ∨ 254 < n then 2 else if inRB (a * 2 ^ n.toNat) then 0 else 20
def lv (a n : Int) : Int := if le a n = 0 then a * 2 ^ n.toNat else 0
def re (a n : Int) : Int := if n < 0 ∨ 254 < n then 2 else if a = -HH then 20 else 0
def rv (a n : Int) : Int := if re a n = 0 then fq a (2 ^ n.toNat) else 0
def ie (a b c : Int) : Int := if c = 0 then 30 else if i64B (nq (a * b) c) then 0 else 20
def iv (a b c : Int) : Int := if ie a b c = 0 then nq (a * b) c else 0
noncomputable def Qs : Env P := ⟨⟨shift :: wideC, []⟩, [], 10, [toldD]⟩
noncomputable def Qi : Env P := ⟨⟨[sure, cNear] ++ wideC, []⟩, [], 10, [toldD]⟩
noncomputable def Qj : Env P := ⟨⟨[must, sure, cNear] ++ wideC, []⟩, [], 10, [toldD]⟩
theorem p2_in {n : Int} (h : 0 ≤ n) (h2 : n ≤ 254) : Sm (2 ^ n.toNat) ∧ (0 : Int) < 2 ^ n.toNat := by
  have := pow2_pos n.toNat
  have h1 : (2 : Int) ^ n.toNat ≤ 2 ^ 254 := pow2_le (by omega)
  have h3 : (2 : Int) ^ 254 < HH := by decide
  unfold Sm
  exact ⟨by omega, this⟩
theorem p2_R {n : Int} (h : 0 ≤ n) (h2 : n ≤ 254) : InR (1 * 2 ^ n.toNat) := by
  rw [Int.one_mul]
  have := (p2_in h h2).1
  unfold Sm at this
  unfold InR
  omega
theorem shiftP_1 {n : Int} (h : 0 ≤ n) (h2 : n ≤ 254) : shiftP [W 1, .int .i64 n] := ⟨⟨_, rfl⟩, h, by omega⟩
theorem nsure {n : Int} (h : inRB n = false) : (!(!(!inRB n))) = true := by rw [h]; rfl
theorem weq0_t : weq 0 0 = true := by decide
theorem weq0_f {a : Int} (i : InR a) (h : a ≠ 0) : weq a 0 = false := nwn i (by unfold InR; decide) h
theorem LeftN_run (a n : Int) : runF P Qs 4 16 [W a, .int .i64 n] (.b false :: []) =
  some (.tuple #[W 0, .int .i64 2],
    [(decide (n ≥ 0)) = false]) := by kernel_rfl
theorem LeftN_leaf (a n : Int) (h : n < 0) : Gives P 16 #[W a, .int .i64 n] (.tuple #[W 0, .int .i64 2]) := by
  have R := LeftN_run a n
  refine gives_of_run mo R (ps_cons (decide_eq_false (by omega)) ps_nil) ?_
  rfl
theorem LeftM_run (a n : Int) : runF P Qs 4 16 [W a, .int .i64 n] (.b true :: (.b true :: [])) =
  some (.tuple #[W 0, .int .i64 2],
    [(decide (n ≥ 0)) = true,
     (!(decide (n ≤ 254))) = true]) := by kernel_rfl
theorem LeftM_leaf (a n : Int) (h1 : 0 ≤ n) (h2 : 254 < n) : Gives P 16 #[W a, .int .i64 n] (.tuple #[W 0, .int .i64 2]) := by
  have R := LeftM_run a n
  refine gives_of_run mo R (ps_cons (decide_eq_true (by omega)) (ps_cons (by simp; omega) ps_nil)) ?_
  rfl
theorem RightN_run (a n : Int) : runF P Qs 4 18 [W a, .int .i64 n] (.b false :: []) =
  some (.tuple #[W 0, .int .i64 2],
    [(decide (n ≥ 0)) = false]) := by kernel_rfl
theorem RightN_leaf (a n : Int) (h : n < 0) : Gives P 18 #[W a, .int .i64 n] (.tuple #[W 0, .int .i64 2]) := by
  have R := RightN_run a n
  refine gives_of_run mo R (ps_cons (decide_eq_false (by omega)) ps_nil) ?_
  rfl
theorem RightM_run (a n : Int) : runF P Qs 4 18 [W a, .int .i64 n] (.b true :: (.b true :: [])) =
  some (.tuple #[W 0, .int .i64 2],
    [(decide (n ≥ 0)) = true,
     (!(decide (n ≤ 254))) = true]) := by kernel_rfl
theorem RightM_leaf (a n : Int) (h1 : 0 ≤ n) (h2 : 254 < n) : Gives P 18 #[W a, .int .i64 n] (.tuple #[W 0, .int .i64 2]) := by
  have R := RightM_run a n
  refine gives_of_run mo R (ps_cons (decide_eq_true (by omega)) (ps_cons (by simp; omega) ps_nil)) ?_
  rfl
theorem Left0_run (a n : Int) : runF P Qn 3 16 [W a, .int .i64 n] (.b true :: (.b true :: [])) =
  some (.tuple #[W a, .int .i64 0],
    [(decide (n ≥ 0)) = true,
     mustP [.bool (decide (n ≤ 254)), .int .i64 2],
     (weq a 0) = true]) := by kernel_rfl
theorem Left0_leaf (a n : Int) (h1 : 0 ≤ n) (h2 : n ≤ 254) (ha : a = 0) : Gives P 16 #[W a, .int .i64 n] (.tuple #[W a, .int .i64 0]) := by
  have R := Left0_run a n
  refine gives_of_run mo R (ps_cons (decide_eq_true (by omega)) (ps_cons (decide_eq_true h2) (ps_cons (by rw [ha]; exact weq0_t) ps_nil))) ?_
  rfl
theorem Left1_run (a n : Int) : runF P Qn 3 16 [W a, .int .i64 n] (.b true :: (.b false :: [])) =
  some (.tuple #[W (tI (W a) * tI (W (tI (W 1) * 2 ^ n.toNat))), .int .i64 0],
    [(decide (n ≥ 0)) = true,
     mustP [.bool (decide (n ≤ 254)), .int .i64 2],
     (weq a 0) = false,
     ofP [.int .i64 1],
     shiftP [W 1, .int .i64 n],
     P2 [W a, W (tI (W 1) * 2 ^ n.toNat)],
     sureP [W (tI (W a) * tI (W (tI (W 1) * 2 ^ n.toNat))), .bool (!inRB (tI (W a) * tI (W (tI (W 1) * 2 ^ n.toNat))))]]) := by kernel_rfl
theorem Left1_leaf (a n : Int) (h1 : 0 ≤ n) (h2 : n ≤ 254) (i1 : InR a) (h : a ≠ 0) (hv : InR (a * 2 ^ n.toNat)) : Gives P 16 #[W a, .int .i64 n] (.tuple #[W (a * 2 ^ n.toNat), .int .i64 0]) := by
  have e0 : tI (W 1) = 1 := tI_in (by unfold InR; decide)
  have e1 : tI (W a) = a := tI_in i1
  have e2 : tI (W (1 * 2 ^ n.toNat)) = 1 * 2 ^ n.toNat := tI_in (p2_R h1 h2)
  have R := Left1_run a n
  rw [e0, e1, e2] at R
  refine gives_of_run mo R (ps_cons (decide_eq_true (by omega)) (ps_cons (decide_eq_true h2) (ps_cons (weq0_f i1 h) (ps_cons ⟨by decide, by decide⟩ (ps_cons (shiftP_1 h1 h2) (ps_cons (P2_W _ _) (ps_cons (sure_ok (by first | exact hv | (rw [Int.one_mul]; exact hv))) ps_nil))))))) ?_
  rw [Int.one_mul]
theorem Left2_run (a n : Int) : runF P Qs 5 16 [W a, .int .i64 n] (.b true :: (.b false :: (.b false :: (.b true :: [])))) =
  some (.tuple #[W 0, .int .i64 20],
    [(decide (n ≥ 0)) = true,
     (!(decide (n ≤ 254))) = false,
     (weq a 0) = false,
     ofP [.int .i64 1],
     shiftP [W 1, .int .i64 n],
     P2 [W a, W (tI (W 1) * 2 ^ n.toNat)],
     (!(!(!inRB (tI (W a) * tI (W (tI (W 1) * 2 ^ n.toNat)))))) = true]) := by kernel_rfl
theorem Left2_leaf (a n : Int) (h1 : 0 ≤ n) (h2 : n ≤ 254) (i1 : InR a) (h : a ≠ 0) (hv : inRB (a * 2 ^ n.toNat) = false) : Gives P 16 #[W a, .int .i64 n] (.tuple #[W 0, .int .i64 20]) := by
  have e0 : tI (W 1) = 1 := tI_in (by unfold InR; decide)
  have e1 : tI (W a) = a := tI_in i1
  have e2 : tI (W (1 * 2 ^ n.toNat)) = 1 * 2 ^ n.toNat := tI_in (p2_R h1 h2)
  have R := Left2_run a n
  rw [e0, e1, e2] at R
  refine gives_of_run mo R (ps_cons (decide_eq_true (by omega)) (ps_cons (by simp; omega) (ps_cons (weq0_f i1 h) (ps_cons ⟨by decide, by decide⟩ (ps_cons (shiftP_1 h1 h2) (ps_cons (P2_W _ _) (ps_cons (nsure (by first | exact hv | (rw [Int.one_mul]; exact hv))) ps_nil))))))) ?_
  rfl
theorem Right1_run (a n : Int) : runF P Qn 3 18 [W a, .int .i64 n] (.b true :: []) =
  some (.tuple #[W (fq (tI (W a)) (tI (W (tI (W 1) * 2 ^ n.toNat)))), .int .i64 0],
    [(decide (n ≥ 0)) = true,
     mustP [.bool (decide (n ≤ 254)), .int .i64 2],
     ofP [.int .i64 1],
     shiftP [W 1, .int .i64 n],
     floorP [W a, W (tI (W 1) * 2 ^ n.toNat)]]) := by kernel_rfl
theorem Right1_leaf (a n : Int) (h1 : 0 ≤ n) (h2 : n ≤ 254) (ha : Sm a) : Gives P 18 #[W a, .int .i64 n] (.tuple #[W (fq a (2 ^ n.toNat)), .int .i64 0]) := by
  have i1 : InR a := inR_of ha
  have e0 : tI (W 1) = 1 := tI_in (by unfold InR; decide)
  have e1 : tI (W a) = a := tI_in i1
  have e2 : tI (W (1 * 2 ^ n.toNat)) = 1 * 2 ^ n.toNat := tI_in (p2_R h1 h2)
  have R := Right1_run a n
  rw [e0, e1, e2] at R
  refine gives_of_run mo R (ps_cons (decide_eq_true (by omega)) (ps_cons (decide_eq_true h2) (ps_cons ⟨by decide, by decide⟩ (ps_cons (shiftP_1 h1 h2) (ps_cons (floor_at ha (by rw [Int.one_mul]; exact (p2_in h1 h2).1) (by rw [Int.one_mul]; have := (p2_in h1 h2).2; omega)) ps_nil))))) ?_
  rw [Int.one_mul]
theorem Ints0_run (a b c : Int) : runF P Qi 4 20 [.int .i64 a, .int .i64 b, .int .i64 c] (.b true :: []) =
  some (.tuple #[.int .i64 0, .int .i64 (qe (tI (W (tI (W a) * tI (W b)))) (tI (W c)))],
    [ofP [.int .i64 a],
     ofP [.int .i64 b],
     P2 [W a, W b],
     sureP [W (tI (W a) * tI (W b)), .bool (!inRB (tI (W a) * tI (W b)))],
     ofP [.int .i64 c],
     P2 [W (tI (W a) * tI (W b)), W c],
     (!(qe (tI (W (tI (W a) * tI (W b)))) (tI (W c)) == 0)) = true]) := by kernel_rfl
theorem Ints0_leaf (a b c : Int) (ha : I64 a) (hb : I64 b) (hc : I64 c) (he : qe (a * b) c = 30) : Gives P 20 #[.int .i64 a, .int .i64 b, .int .i64 c] (.tuple #[.int .i64 0, .int .i64 30]) := by
  have e0 : tI (W a) = a := tI_in (inR64 ha)
  have e1 : tI (W b) = b := tI_in (inR64 hb)
  have e2 : tI (W (a * b)) = a * b := tI_in (mul64_in ha hb)
  have e3 : tI (W c) = c := tI_in (inR64 hc)
  have R := Ints0_run a b c
  rw [e0, e1, e2, e3] at R
  refine gives_of_run mo R (ps_cons ha (ps_cons hb (ps_cons (P2_W _ _) (ps_cons (sure_ok (mul64_in ha hb)) (ps_cons hc (ps_cons (P2_W _ _) (ps_cons (by rw [he]; rfl) ps_nil))))))) ?_
  rw [he]
theorem Ints1_run (a b c : Int) : runF P Qi 4 20 [.int .i64 a, .int .i64 b, .int .i64 c] (.b false :: (.b true :: [])) =
  some (.tuple #[.int .i64 0, .int .i64 20],
    [ofP [.int .i64 a],
     ofP [.int .i64 b],
     P2 [W a, W b],
     sureP [W (tI (W a) * tI (W b)), .bool (!inRB (tI (W a) * tI (W b)))],
     ofP [.int .i64 c],
     P2 [W (tI (W a) * tI (W b)), W c],
     (!(qe (tI (W (tI (W a) * tI (W b)))) (tI (W c)) == 0)) = false,
     P1 [W (qv nq (tI (W (tI (W a) * tI (W b)))) (tI (W c)))],
     (!(i64B (tI (W (qv nq (tI (W (tI (W a) * tI (W b)))) (tI (W c))))))) = true]) := by kernel_rfl
theorem Ints1_leaf (a b c : Int) (ha : I64 a) (hb : I64 b) (hc : I64 c) (he : qe (a * b) c = 0) (hv : InR (qv nq (a * b) c)) (hi : i64B (qv nq (a * b) c) = false) : Gives P 20 #[.int .i64 a, .int .i64 b, .int .i64 c] (.tuple #[.int .i64 0, .int .i64 20]) := by
  have e0 : tI (W a) = a := tI_in (inR64 ha)
  have e1 : tI (W b) = b := tI_in (inR64 hb)
  have e2 : tI (W (a * b)) = a * b := tI_in (mul64_in ha hb)
  have e3 : tI (W c) = c := tI_in (inR64 hc)
  have e4 : tI (W (qv nq ((a * b)) c)) = qv nq ((a * b)) c := tI_in hv
  have R := Ints1_run a b c
  rw [e0, e1, e2, e3, e4] at R
  refine gives_of_run mo R (ps_cons ha (ps_cons hb (ps_cons (P2_W _ _) (ps_cons (sure_ok (mul64_in ha hb)) (ps_cons hc (ps_cons (P2_W _ _) (ps_cons (by rw [he]; rfl) (ps_cons (P1_W _) (ps_cons (by rw [hi]; rfl) ps_nil))))))))) ?_
  rfl
theorem Ints2_run (a b c : Int) : runF P Qj 3 20 [.int .i64 a, .int .i64 b, .int .i64 c] [] =
  some (.tuple #[.int .i64 (if i64B (tI (W (qv nq (tI (W (tI (W a) * tI (W b)))) (tI (W c))))) then tI (W (qv nq (tI (W (tI (W a) * tI (W b)))) (tI (W c)))) else 0), .int .i64 0],
    [ofP [.int .i64 a],
     ofP [.int .i64 b],
     P2 [W a, W b],
     sureP [W (tI (W a) * tI (W b)), .bool (!inRB (tI (W a) * tI (W b)))],
     ofP [.int .i64 c],
     P2 [W (tI (W a) * tI (W b)), W c],
     mustP [.bool (qe (tI (W (tI (W a) * tI (W b)))) (tI (W c)) == 0), .int .i64 (qe (tI (W (tI (W a) * tI (W b)))) (tI (W c)))],
     P1 [W (qv nq (tI (W (tI (W a) * tI (W b)))) (tI (W c)))],
     mustP [.bool (i64B (tI (W (qv nq (tI (W (tI (W a) * tI (W b)))) (tI (W c)))))), .int .i64 20]]) := by kernel_rfl
theorem Ints2_leaf (a b c : Int) (ha : I64 a) (hb : I64 b) (hc : I64 c) (he : qe (a * b) c = 0) (hv : InR (qv nq (a * b) c)) (hi : i64B (qv nq (a * b) c) = true) : Gives P 20 #[.int .i64 a, .int .i64 b, .int .i64 c] (.tuple #[.int .i64 (qv nq (a * b) c), .int .i64 0]) := by
  have e0 : tI (W a) = a := tI_in (inR64 ha)
  have e1 : tI (W b) = b := tI_in (inR64 hb)
  have e2 : tI (W (a * b)) = a * b := tI_in (mul64_in ha hb)
  have e3 : tI (W c) = c := tI_in (inR64 hc)
  have e4 : tI (W (qv nq ((a * b)) c)) = qv nq ((a * b)) c := tI_in hv
  have R := Ints2_run a b c
  rw [e0, e1, e2, e3, e4] at R
  refine gives_of_run mo R (ps_cons ha (ps_cons hb (ps_cons (P2_W _ _) (ps_cons (sure_ok (mul64_in ha hb)) (ps_cons hc (ps_cons (P2_W _ _) (ps_cons (by rw [he]; rfl) (ps_cons (P1_W _) (ps_cons (by rw [hi]; rfl) ps_nil))))))))) ?_
  rw [hi]
  rfl
def shP : List Value → Prop
  | [x, .int .i64 n] => IsW x ∧ I64 n
  | _ => False
def shPr : List Value → Prop
  | [x, .int .i64 n] => IsW x ∧ I64 n ∧ re (tI x) n ≠ 20
  | _ => False
def leftV : List Value → Value
  | [x, .int _ n] => .tuple #[W (lv (tI x) n), .int .i64 (le (tI x) n)]
  | _ => undef
def rightV : List Value → Value
  | [x, .int _ n] => .tuple #[W (rv (tI x) n), .int .i64 (re (tI x) n)]
  | _ => undef
theorem Left_all {a n : Int} (i1 : InR a) : Gives P 16 #[W a, .int .i64 n] (.tuple #[W (lv a n), .int .i64 (le a n)]) := by
  by_cases h1 : n < 0
  · have e : le a n = 2 := by unfold le; rw [if_pos (.inl h1)]
    unfold lv
    rw [e]
    exact LeftN_leaf a n h1
  by_cases h2 : 254 < n
  · have e : le a n = 2 := by unfold le; rw [if_pos (.inr h2)]
    unfold lv
    rw [e]
    exact LeftM_leaf a n (by omega) h2
  have h1 : 0 ≤ n := by omega
  have h2 : n ≤ 254 := by omega
  cases hv : inRB (a * 2 ^ n.toNat) with
  | true =>
    have e : le a n = 0 := by unfold le; rw [if_neg (by omega), hv]; rfl
    unfold lv
    rw [e, if_pos rfl]
    by_cases ha : a = 0
    · have := Left0_leaf a n h1 h2 ha
      rw [ha] at this ⊢
      rw [Int.zero_mul]
      exact this
    · exact Left1_leaf a n h1 h2 i1 ha (inRB_iff.1 hv)
  | false =>
    have e : le a n = 20 := by unfold le; rw [if_neg (by omega), hv]; rfl
    unfold lv
    rw [e]
    have ha : a ≠ 0 := by
      intro ha
      rw [ha, Int.zero_mul] at hv
      revert hv
      decide
    exact Left2_leaf a n h1 h2 i1 ha hv
theorem Right_all {a n : Int} (i1 : InR a) (hr : re a n ≠ 20) : Gives P 18 #[W a, .int .i64 n] (.tuple #[W (rv a n), .int .i64 (re a n)]) := by
  by_cases h1 : n < 0
  · have e : re a n = 2 := by unfold re; rw [if_pos (.inl h1)]
    unfold rv
    rw [e]
    exact RightN_leaf a n h1
  by_cases h2 : 254 < n
  · have e : re a n = 2 := by unfold re; rw [if_pos (.inr h2)]
    unfold rv
    rw [e]
    exact RightM_leaf a n (by omega) h2
  have h1 : 0 ≤ n := by omega
  have h2 : n ≤ 254 := by omega
  by_cases ha : a = -HH
  · subst ha
    have e : re (-HH) n = 20 := by unfold re; rw [if_neg (by omega), if_pos rfl]
    exact absurd e hr
  · have e : re a n = 0 := by unfold re; rw [if_neg (by omega), if_neg ha]
    unfold rv
    rw [e, if_pos rfl]
    exact Right1_leaf a n h1 h2 (by unfold InR Sm at *; omega)
theorem Left_gives (args : List Value) (h : shP args) : Gives P 16 args.toArray (leftV args) := by
  unfold shP at h
  split at h
  · rename_i x n
    obtain ⟨ex, rx⟩ := isW_in h.1
    have key := Left_all (n := n) rx
    rw [← ex] at key
    exact key
  · exact h.elim
theorem Right_gives (args : List Value) (h : shPr args) : Gives P 18 args.toArray (rightV args) := by
  unfold shPr at h
  split at h
  · rename_i x n
    obtain ⟨ex, rx⟩ := isW_in h.1
    have key := Right_all (n := n) rx h.2.2
    rw [← ex] at key
    exact key
  · exact h.elim
noncomputable def cLeft : Ctr P := ⟨16, shP, leftV, Left_gives⟩
noncomputable def cRight : Ctr P := ⟨18, shPr, rightV, Right_gives⟩
def intsP : List Value → Prop
  | [.int .i64 a, .int .i64 b, .int .i64 c] => I64 a ∧ I64 b ∧ I64 c
  | _ => False
def intsV : List Value → Value
  | [.int _ a, .int _ b, .int _ c] => .tuple #[.int .i64 (iv a b c), .int .i64 (ie a b c)]
  | _ => undef
/-- The nearest is within. -/
theorem nq_in {a b : Int} (ha : Sm a) (hb : Sm b) (h : b ≠ 0) : InR (nq a b) := by
  unfold nq
  split
  · rename_i hc
    exact up_in ha hb h (nc_rest ha hb h (by omega))
  · exact (fl_facts ha hb h).2.2.2.1
theorem sm64 {a : Int} (h : I64 a) : Sm a := by unfold I64 Sm at *; simp only [HH]; omega
theorem smmul {a b : Int} (ha : I64 a) (hb : I64 b) : Sm (a * b) := by
  have h := mul64_in ha hb
  unfold InR at h
  unfold Sm
  refine ⟨?_, h.2⟩
  unfold I64 at ha hb
  have hH : HH = 57896044618658097711785492504343953926634992332820282019728792003956564819968 := rfl
  have e1 : a.natAbs ≤ 9223372036854775808 := by omega
  have e2 : b.natAbs ≤ 9223372036854775808 := by omega
  have e3 : (a * b).natAbs ≤ 9223372036854775808 * 9223372036854775808 := by rw [Int.natAbs_mul]; exact Nat.mul_le_mul e1 e2
  omega
theorem Ints_gives (args : List Value) (h : intsP args) : Gives P 20 args.toArray (intsV args) := by
  unfold intsP at h
  split at h
  · rename_i a b c
    obtain ⟨ha, hb, hc⟩ := h
    show Gives P 20 #[.int .i64 a, .int .i64 b, .int .i64 c] (.tuple #[.int .i64 (iv a b c), .int .i64 (ie a b c)])
    have h1 := smmul ha hb
    have h2 := sm64 hc
    by_cases h : c = 0
    · have e : ie a b c = 30 := by unfold ie; rw [if_pos h]
      unfold iv
      rw [e]
      exact Ints0_leaf a b c ha hb hc (by unfold qe; rw [if_pos h])
    · have he := qe_ok h1 h2 h
      have ev : qv nq (a * b) c = nq (a * b) c := by unfold qv; rw [he, if_pos rfl]
      have hv : InR (qv nq (a * b) c) := by rw [ev]; exact nq_in h1 h2 h
      cases hi : i64B (qv nq (a * b) c) with
      | true =>
        have e : ie a b c = 0 := by unfold ie; rw [if_neg h, ← ev, hi]; rfl
        unfold iv
        rw [e, if_pos rfl, ← ev]
        exact Ints2_leaf a b c ha hb hc he hv hi
      | false =>
        have e : ie a b c = 20 := by unfold ie; rw [if_neg h, ← ev, hi]; rfl
        unfold iv
        rw [e]
        exact Ints1_leaf a b c ha hb hc he hv hi
  · exact h.elim
noncomputable def cInts : Ctr P := ⟨20, intsP, intsV, Ints_gives⟩
noncomputable def quotC : List (Ctr P) := [cFloor, cRest, cCeil, cNear, cLeft, cRight, cInts]
end Go.Qt
