/-
  ival: by, and the numbers of intervals. Printed by ivC.py.
-/
import Derived.Test.YtjfcndiodbaejaaDoorIvB
set_option maxRecDepth 100000
namespace Go.Iv
open Go Go.RowKit Go.Sx Go.Nm Go.Wd Go.Qt Go.Proofs

def byRaw (x n d : Int) : Bool := (qe (x * n) d == 0) && (i64B (qv fq (x * n) d) && (i64B (qv cq (x * n) d) && (decide (byLo x n d ≥ -1152921504606846976) && (decide (byLo x n d ≤ 1152921504606846976) && (decide (byHi x n d ≥ -1152921504606846976) && decide (byHi x n d ≤ 1152921504606846976))))))
def byP : List Value → Prop
  | [.int .i64 x, .int .i64 n, .int .i64 d] => I64 x ∧ I64 n ∧ I64 d
  | _ => False
def byV : List Value → Value
  | [.int _ x, .int _ n, .int _ d] => .tuple #[.int .i64 (byLo x n d), .int .i64 (byHi x n d), .bool (byOk x n d)]
  | _ => undef
theorem i64_in {x : Int} (h : I64 x) : InR x := inR_of (sm64 h)
theorem qe_z {a : Int} : qe a 0 = 30 := by unfold qe; rw [if_pos rfl]
theorem qvf_in {a b : Int} (ha : Sm a) (hb : Sm b) : InR (qv fq a b) := by
  by_cases h : b = 0
  · subst h; rw [qv_e fq (by rw [qe_z]; decide)]; exact inR_0
  · rw [qv_ok fq ha hb h]; exact (fl_facts ha hb h).2.2.2.1
theorem qvc_in {a b : Int} (ha : Sm a) (hb : Sm b) : InR (qv cq a b) := by
  by_cases h : b = 0
  · subst h; rw [qv_e cq (by rw [qe_z]; decide)]; exact inR_0
  · rw [qv_ok cq ha hb h]
    unfold cq
    by_cases hr : fr a b = 0
    · rw [if_pos hr]; exact (fl_facts ha hb h).2.2.2.1
    · rw [if_neg hr]; exact up_in ha hb h hr
theorem fq_cq (a b : Int) : fq a b ≤ cq a b ∧ cq a b ≤ fq a b + 1 := by unfold cq; split <;> omega
theorem byOk_eq {x n d : Int} (hx : I64 x) (hn : I64 n) (hd : I64 d) : byOk x n d = byRaw x n d := by
  have ha := smmul hx hn
  have hb := sm64 hd
  unfold byOk byRaw
  by_cases h : d = 0
  · subst h
    rw [qe_z]
    simp
  · have := fq_cq (x * n) d
    unfold byLo byHi
    rw [qe_ok ha hb h, qv_ok fq ha hb h, qv_ok cq ha hb h]
    generalize fq (x * n) d = f at *
    generalize cq (x * n) d = c at *
    rw [Bool.eq_iff_iff]
    simp only [Bool.and_eq_true, decide_eq_true_eq, beq_self_eq_true, true_and, i64B]
    constructor
    · rintro ⟨_, h1, h2⟩
      refine ⟨⟨by omega, by omega⟩, ⟨by omega, by omega⟩, ?_⟩
      rw [if_pos ⟨by omega, by omega⟩, if_pos ⟨by omega, by omega⟩]
      omega
    · rintro ⟨h1, h2, h3⟩
      rw [if_pos h1, if_pos h2] at h3
      exact ⟨h, by omega, by omega⟩
noncomputable def J0 : Env P := ⟨⟨wideC ++ quotC, []⟩, [], 10, []⟩
theorem by0_run (x n d : Int) : runF P J0 1 104 [.int .i64 x, .int .i64 n, .int .i64 d] (.b false :: []) =
  some (.tuple #[.int .i64 (if i64B (tI (W (qv fq (tI (W (tI (W x) * tI (W n)))) (tI (W d))))) then tI (W (qv fq (tI (W (tI (W x) * tI (W n)))) (tI (W d)))) else 0), .int .i64 (if i64B (tI (W (qv cq (tI (W (tI (W x) * tI (W n)))) (tI (W d))))) then tI (W (qv cq (tI (W (tI (W x) * tI (W n)))) (tI (W d)))) else 0), .bool false],
    [ofP [.int .i64 x],
     ofP [.int .i64 n],
     P2 [W x, W n],
     ofP [.int .i64 d],
     P2 [W (tI (W x) * tI (W n)), W d],
     ofP [.int .i64 d],
     P2 [W (tI (W x) * tI (W n)), W d],
     P1 [W (qv fq (tI (W (tI (W x) * tI (W n)))) (tI (W d)))],
     P1 [W (qv cq (tI (W (tI (W x) * tI (W n)))) (tI (W d)))],
     (qe (tI (W (tI (W x) * tI (W n)))) (tI (W d)) == 0) = false]) := by kernel_rfl
theorem by0_leaf (x n d : Int) (hx : I64 x) (hn : I64 n) (hd : I64 d) (q0 : (qe (x * n) d == 0) = false) : Gives P 104 #[.int .i64 x, .int .i64 n, .int .i64 d] (byV [.int .i64 x, .int .i64 n, .int .i64 d]) := by
  have e0 : tI (W x) = x := tI_in (i64_in hx)
  have e1 : tI (W n) = n := tI_in (i64_in hn)
  have e2 : tI (W (x * n)) = x * n := tI_in (inR_of (smmul hx hn))
  have e3 : tI (W d) = d := tI_in (i64_in hd)
  have e4 : tI (W (qv fq ((x * n)) d)) = qv fq ((x * n)) d := tI_in (qvf_in (smmul hx hn) (sm64 hd))
  have e5 : tI (W (qv cq ((x * n)) d)) = qv cq ((x * n)) d := tI_in (qvc_in (smmul hx hn) (sm64 hd))
  have R := by0_run x n d
  rw [e0, e1, e2, e3, e4, e5] at R
  refine gives_of_run mo R (ps_cons hx (ps_cons hn (ps_cons (P2_W _ _) (ps_cons hd (ps_cons (P2_W _ _) (ps_cons hd (ps_cons (P2_W _ _) (ps_cons (P1_W _) (ps_cons (P1_W _) (ps_cons q0 ps_nil)))))))))) ?_
  have eb : byOk x n d = false := by
    rw [byOk_eq hx hn hd]
    unfold byRaw
    rw [q0]
    rfl
  show _ = Value.tuple #[.int .i64 (byLo x n d), .int .i64 (byHi x n d), .bool (byOk x n d)]
  rw [eb]
  rfl
theorem by1_run (x n d : Int) : runF P J0 1 104 [.int .i64 x, .int .i64 n, .int .i64 d] (.b true :: (.b false :: [])) =
  some (.tuple #[.int .i64 (if i64B (tI (W (qv fq (tI (W (tI (W x) * tI (W n)))) (tI (W d))))) then tI (W (qv fq (tI (W (tI (W x) * tI (W n)))) (tI (W d)))) else 0), .int .i64 (if i64B (tI (W (qv cq (tI (W (tI (W x) * tI (W n)))) (tI (W d))))) then tI (W (qv cq (tI (W (tI (W x) * tI (W n)))) (tI (W d)))) else 0), .bool false],
    [ofP [.int .i64 x],
     ofP [.int .i64 n],
     P2 [W x, W n],
     ofP [.int .i64 d],
     P2 [W (tI (W x) * tI (W n)), W d],
     ofP [.int .i64 d],
     P2 [W (tI (W x) * tI (W n)), W d],
     P1 [W (qv fq (tI (W (tI (W x) * tI (W n)))) (tI (W d)))],
     P1 [W (qv cq (tI (W (tI (W x) * tI (W n)))) (tI (W d)))],
     (qe (tI (W (tI (W x) * tI (W n)))) (tI (W d)) == 0) = true,
     (i64B (tI (W (qv fq (tI (W (tI (W x) * tI (W n)))) (tI (W d)))))) = false]) := by kernel_rfl
theorem by1_leaf (x n d : Int) (hx : I64 x) (hn : I64 n) (hd : I64 d) (q0 : (qe (x * n) d == 0) = true) (q1 : i64B (qv fq (x * n) d) = false) : Gives P 104 #[.int .i64 x, .int .i64 n, .int .i64 d] (byV [.int .i64 x, .int .i64 n, .int .i64 d]) := by
  have e0 : tI (W x) = x := tI_in (i64_in hx)
  have e1 : tI (W n) = n := tI_in (i64_in hn)
  have e2 : tI (W (x * n)) = x * n := tI_in (inR_of (smmul hx hn))
  have e3 : tI (W d) = d := tI_in (i64_in hd)
  have e4 : tI (W (qv fq ((x * n)) d)) = qv fq ((x * n)) d := tI_in (qvf_in (smmul hx hn) (sm64 hd))
  have e5 : tI (W (qv cq ((x * n)) d)) = qv cq ((x * n)) d := tI_in (qvc_in (smmul hx hn) (sm64 hd))
  have R := by1_run x n d
  rw [e0, e1, e2, e3, e4, e5] at R
  refine gives_of_run mo R (ps_cons hx (ps_cons hn (ps_cons (P2_W _ _) (ps_cons hd (ps_cons (P2_W _ _) (ps_cons hd (ps_cons (P2_W _ _) (ps_cons (P1_W _) (ps_cons (P1_W _) (ps_cons q0 (ps_cons q1 ps_nil))))))))))) ?_
  have eb : byOk x n d = false := by
    rw [byOk_eq hx hn hd]
    unfold byRaw
    rw [q0, q1]
    rfl
  show _ = Value.tuple #[.int .i64 (byLo x n d), .int .i64 (byHi x n d), .bool (byOk x n d)]
  rw [eb]
  rfl
theorem by2_run (x n d : Int) : runF P J0 1 104 [.int .i64 x, .int .i64 n, .int .i64 d] (.b true :: (.b true :: (.b false :: []))) =
  some (.tuple #[.int .i64 (if i64B (tI (W (qv fq (tI (W (tI (W x) * tI (W n)))) (tI (W d))))) then tI (W (qv fq (tI (W (tI (W x) * tI (W n)))) (tI (W d)))) else 0), .int .i64 (if i64B (tI (W (qv cq (tI (W (tI (W x) * tI (W n)))) (tI (W d))))) then tI (W (qv cq (tI (W (tI (W x) * tI (W n)))) (tI (W d)))) else 0), .bool false],
    [ofP [.int .i64 x],
     ofP [.int .i64 n],
     P2 [W x, W n],
     ofP [.int .i64 d],
     P2 [W (tI (W x) * tI (W n)), W d],
     ofP [.int .i64 d],
     P2 [W (tI (W x) * tI (W n)), W d],
     P1 [W (qv fq (tI (W (tI (W x) * tI (W n)))) (tI (W d)))],
     P1 [W (qv cq (tI (W (tI (W x) * tI (W n)))) (tI (W d)))],
     (qe (tI (W (tI (W x) * tI (W n)))) (tI (W d)) == 0) = true,
     (i64B (tI (W (qv fq (tI (W (tI (W x) * tI (W n)))) (tI (W d)))))) = true,
     (i64B (tI (W (qv cq (tI (W (tI (W x) * tI (W n)))) (tI (W d)))))) = false]) := by kernel_rfl
theorem by2_leaf (x n d : Int) (hx : I64 x) (hn : I64 n) (hd : I64 d) (q0 : (qe (x * n) d == 0) = true) (q1 : i64B (qv fq (x * n) d) = true) (q2 : i64B (qv cq (x * n) d) = false) : Gives P 104 #[.int .i64 x, .int .i64 n, .int .i64 d] (byV [.int .i64 x, .int .i64 n, .int .i64 d]) := by
  have e0 : tI (W x) = x := tI_in (i64_in hx)
  have e1 : tI (W n) = n := tI_in (i64_in hn)
  have e2 : tI (W (x * n)) = x * n := tI_in (inR_of (smmul hx hn))
  have e3 : tI (W d) = d := tI_in (i64_in hd)
  have e4 : tI (W (qv fq ((x * n)) d)) = qv fq ((x * n)) d := tI_in (qvf_in (smmul hx hn) (sm64 hd))
  have e5 : tI (W (qv cq ((x * n)) d)) = qv cq ((x * n)) d := tI_in (qvc_in (smmul hx hn) (sm64 hd))
  have R := by2_run x n d
  rw [e0, e1, e2, e3, e4, e5] at R
  refine gives_of_run mo R (ps_cons hx (ps_cons hn (ps_cons (P2_W _ _) (ps_cons hd (ps_cons (P2_W _ _) (ps_cons hd (ps_cons (P2_W _ _) (ps_cons (P1_W _) (ps_cons (P1_W _) (ps_cons q0 (ps_cons q1 (ps_cons q2 ps_nil)))))))))))) ?_
  have eb : byOk x n d = false := by
    rw [byOk_eq hx hn hd]
    unfold byRaw
    rw [q0, q1, q2]
    rfl
  show _ = Value.tuple #[.int .i64 (byLo x n d), .int .i64 (byHi x n d), .bool (byOk x n d)]
  rw [eb]
  rfl
theorem by3_run (x n d : Int) : runF P J0 2 104 [.int .i64 x, .int .i64 n, .int .i64 d] (.b true :: (.b true :: (.b true :: (.b false :: [])))) =
  some (.tuple #[.int .i64 (if i64B (tI (W (qv fq (tI (W (tI (W x) * tI (W n)))) (tI (W d))))) then tI (W (qv fq (tI (W (tI (W x) * tI (W n)))) (tI (W d)))) else 0), .int .i64 (if i64B (tI (W (qv cq (tI (W (tI (W x) * tI (W n)))) (tI (W d))))) then tI (W (qv cq (tI (W (tI (W x) * tI (W n)))) (tI (W d)))) else 0), .bool false],
    [ofP [.int .i64 x],
     ofP [.int .i64 n],
     P2 [W x, W n],
     ofP [.int .i64 d],
     P2 [W (tI (W x) * tI (W n)), W d],
     ofP [.int .i64 d],
     P2 [W (tI (W x) * tI (W n)), W d],
     P1 [W (qv fq (tI (W (tI (W x) * tI (W n)))) (tI (W d)))],
     P1 [W (qv cq (tI (W (tI (W x) * tI (W n)))) (tI (W d)))],
     (qe (tI (W (tI (W x) * tI (W n)))) (tI (W d)) == 0) = true,
     (i64B (tI (W (qv fq (tI (W (tI (W x) * tI (W n)))) (tI (W d)))))) = true,
     (i64B (tI (W (qv cq (tI (W (tI (W x) * tI (W n)))) (tI (W d)))))) = true,
     (decide ((if i64B (tI (W (qv fq (tI (W (tI (W x) * tI (W n)))) (tI (W d))))) then tI (W (qv fq (tI (W (tI (W x) * tI (W n)))) (tI (W d)))) else 0) ≥ -1152921504606846976)) = false]) := by kernel_rfl
theorem by3_leaf (x n d : Int) (hx : I64 x) (hn : I64 n) (hd : I64 d) (q0 : (qe (x * n) d == 0) = true) (q1 : i64B (qv fq (x * n) d) = true) (q2 : i64B (qv cq (x * n) d) = true) (q3 : decide (byLo x n d ≥ -1152921504606846976) = false) : Gives P 104 #[.int .i64 x, .int .i64 n, .int .i64 d] (byV [.int .i64 x, .int .i64 n, .int .i64 d]) := by
  have e0 : tI (W x) = x := tI_in (i64_in hx)
  have e1 : tI (W n) = n := tI_in (i64_in hn)
  have e2 : tI (W (x * n)) = x * n := tI_in (inR_of (smmul hx hn))
  have e3 : tI (W d) = d := tI_in (i64_in hd)
  have e4 : tI (W (qv fq ((x * n)) d)) = qv fq ((x * n)) d := tI_in (qvf_in (smmul hx hn) (sm64 hd))
  have e5 : tI (W (qv cq ((x * n)) d)) = qv cq ((x * n)) d := tI_in (qvc_in (smmul hx hn) (sm64 hd))
  have R := by3_run x n d
  rw [e0, e1, e2, e3, e4, e5] at R
  refine gives_of_run mo R (ps_cons hx (ps_cons hn (ps_cons (P2_W _ _) (ps_cons hd (ps_cons (P2_W _ _) (ps_cons hd (ps_cons (P2_W _ _) (ps_cons (P1_W _) (ps_cons (P1_W _) (ps_cons q0 (ps_cons q1 (ps_cons q2 (ps_cons q3 ps_nil))))))))))))) ?_
  have eb : byOk x n d = false := by
    rw [byOk_eq hx hn hd]
    unfold byRaw
    rw [q0, q1, q2, q3]
    rfl
  show _ = Value.tuple #[.int .i64 (byLo x n d), .int .i64 (byHi x n d), .bool (byOk x n d)]
  rw [eb]
  rfl
theorem by4_run (x n d : Int) : runF P J0 2 104 [.int .i64 x, .int .i64 n, .int .i64 d] (.b true :: (.b true :: (.b true :: (.b true :: (.b false :: []))))) =
  some (.tuple #[.int .i64 (if i64B (tI (W (qv fq (tI (W (tI (W x) * tI (W n)))) (tI (W d))))) then tI (W (qv fq (tI (W (tI (W x) * tI (W n)))) (tI (W d)))) else 0), .int .i64 (if i64B (tI (W (qv cq (tI (W (tI (W x) * tI (W n)))) (tI (W d))))) then tI (W (qv cq (tI (W (tI (W x) * tI (W n)))) (tI (W d)))) else 0), .bool false],
    [ofP [.int .i64 x],
     ofP [.int .i64 n],
     P2 [W x, W n],
     ofP [.int .i64 d],
     P2 [W (tI (W x) * tI (W n)), W d],
     ofP [.int .i64 d],
     P2 [W (tI (W x) * tI (W n)), W d],
     P1 [W (qv fq (tI (W (tI (W x) * tI (W n)))) (tI (W d)))],
     P1 [W (qv cq (tI (W (tI (W x) * tI (W n)))) (tI (W d)))],
     (qe (tI (W (tI (W x) * tI (W n)))) (tI (W d)) == 0) = true,
     (i64B (tI (W (qv fq (tI (W (tI (W x) * tI (W n)))) (tI (W d)))))) = true,
     (i64B (tI (W (qv cq (tI (W (tI (W x) * tI (W n)))) (tI (W d)))))) = true,
     (decide ((if i64B (tI (W (qv fq (tI (W (tI (W x) * tI (W n)))) (tI (W d))))) then tI (W (qv fq (tI (W (tI (W x) * tI (W n)))) (tI (W d)))) else 0) ≥ -1152921504606846976)) = true,
     (decide ((if i64B (tI (W (qv fq (tI (W (tI (W x) * tI (W n)))) (tI (W d))))) then tI (W (qv fq (tI (W (tI (W x) * tI (W n)))) (tI (W d)))) else 0) ≤ 1152921504606846976)) = false]) := by kernel_rfl
theorem by4_leaf (x n d : Int) (hx : I64 x) (hn : I64 n) (hd : I64 d) (q0 : (qe (x * n) d == 0) = true) (q1 : i64B (qv fq (x * n) d) = true) (q2 : i64B (qv cq (x * n) d) = true) (q3 : decide (byLo x n d ≥ -1152921504606846976) = true) (q4 : decide (byLo x n d ≤ 1152921504606846976) = false) : Gives P 104 #[.int .i64 x, .int .i64 n, .int .i64 d] (byV [.int .i64 x, .int .i64 n, .int .i64 d]) := by
  have e0 : tI (W x) = x := tI_in (i64_in hx)
  have e1 : tI (W n) = n := tI_in (i64_in hn)
  have e2 : tI (W (x * n)) = x * n := tI_in (inR_of (smmul hx hn))
  have e3 : tI (W d) = d := tI_in (i64_in hd)
  have e4 : tI (W (qv fq ((x * n)) d)) = qv fq ((x * n)) d := tI_in (qvf_in (smmul hx hn) (sm64 hd))
  have e5 : tI (W (qv cq ((x * n)) d)) = qv cq ((x * n)) d := tI_in (qvc_in (smmul hx hn) (sm64 hd))
  have R := by4_run x n d
  rw [e0, e1, e2, e3, e4, e5] at R
  refine gives_of_run mo R (ps_cons hx (ps_cons hn (ps_cons (P2_W _ _) (ps_cons hd (ps_cons (P2_W _ _) (ps_cons hd (ps_cons (P2_W _ _) (ps_cons (P1_W _) (ps_cons (P1_W _) (ps_cons q0 (ps_cons q1 (ps_cons q2 (ps_cons q3 (ps_cons q4 ps_nil)))))))))))))) ?_
  have eb : byOk x n d = false := by
    rw [byOk_eq hx hn hd]
    unfold byRaw
    rw [q0, q1, q2, q3, q4]
    rfl
  show _ = Value.tuple #[.int .i64 (byLo x n d), .int .i64 (byHi x n d), .bool (byOk x n d)]
  rw [eb]
  rfl
theorem by5_run (x n d : Int) : runF P J0 2 104 [.int .i64 x, .int .i64 n, .int .i64 d] (.b true :: (.b true :: (.b true :: (.b true :: (.b true :: (.b false :: [])))))) =
  some (.tuple #[.int .i64 (if i64B (tI (W (qv fq (tI (W (tI (W x) * tI (W n)))) (tI (W d))))) then tI (W (qv fq (tI (W (tI (W x) * tI (W n)))) (tI (W d)))) else 0), .int .i64 (if i64B (tI (W (qv cq (tI (W (tI (W x) * tI (W n)))) (tI (W d))))) then tI (W (qv cq (tI (W (tI (W x) * tI (W n)))) (tI (W d)))) else 0), .bool false],
    [ofP [.int .i64 x],
     ofP [.int .i64 n],
     P2 [W x, W n],
     ofP [.int .i64 d],
     P2 [W (tI (W x) * tI (W n)), W d],
     ofP [.int .i64 d],
     P2 [W (tI (W x) * tI (W n)), W d],
     P1 [W (qv fq (tI (W (tI (W x) * tI (W n)))) (tI (W d)))],
     P1 [W (qv cq (tI (W (tI (W x) * tI (W n)))) (tI (W d)))],
     (qe (tI (W (tI (W x) * tI (W n)))) (tI (W d)) == 0) = true,
     (i64B (tI (W (qv fq (tI (W (tI (W x) * tI (W n)))) (tI (W d)))))) = true,
     (i64B (tI (W (qv cq (tI (W (tI (W x) * tI (W n)))) (tI (W d)))))) = true,
     (decide ((if i64B (tI (W (qv fq (tI (W (tI (W x) * tI (W n)))) (tI (W d))))) then tI (W (qv fq (tI (W (tI (W x) * tI (W n)))) (tI (W d)))) else 0) ≥ -1152921504606846976)) = true,
     (decide ((if i64B (tI (W (qv fq (tI (W (tI (W x) * tI (W n)))) (tI (W d))))) then tI (W (qv fq (tI (W (tI (W x) * tI (W n)))) (tI (W d)))) else 0) ≤ 1152921504606846976)) = true,
     (decide ((if i64B (tI (W (qv cq (tI (W (tI (W x) * tI (W n)))) (tI (W d))))) then tI (W (qv cq (tI (W (tI (W x) * tI (W n)))) (tI (W d)))) else 0) ≥ -1152921504606846976)) = false]) := by kernel_rfl
theorem by5_leaf (x n d : Int) (hx : I64 x) (hn : I64 n) (hd : I64 d) (q0 : (qe (x * n) d == 0) = true) (q1 : i64B (qv fq (x * n) d) = true) (q2 : i64B (qv cq (x * n) d) = true) (q3 : decide (byLo x n d ≥ -1152921504606846976) = true) (q4 : decide (byLo x n d ≤ 1152921504606846976) = true) (q5 : decide (byHi x n d ≥ -1152921504606846976) = false) : Gives P 104 #[.int .i64 x, .int .i64 n, .int .i64 d] (byV [.int .i64 x, .int .i64 n, .int .i64 d]) := by
  have e0 : tI (W x) = x := tI_in (i64_in hx)
  have e1 : tI (W n) = n := tI_in (i64_in hn)
  have e2 : tI (W (x * n)) = x * n := tI_in (inR_of (smmul hx hn))
  have e3 : tI (W d) = d := tI_in (i64_in hd)
  have e4 : tI (W (qv fq ((x * n)) d)) = qv fq ((x * n)) d := tI_in (qvf_in (smmul hx hn) (sm64 hd))
  have e5 : tI (W (qv cq ((x * n)) d)) = qv cq ((x * n)) d := tI_in (qvc_in (smmul hx hn) (sm64 hd))
  have R := by5_run x n d
  rw [e0, e1, e2, e3, e4, e5] at R
  refine gives_of_run mo R (ps_cons hx (ps_cons hn (ps_cons (P2_W _ _) (ps_cons hd (ps_cons (P2_W _ _) (ps_cons hd (ps_cons (P2_W _ _) (ps_cons (P1_W _) (ps_cons (P1_W _) (ps_cons q0 (ps_cons q1 (ps_cons q2 (ps_cons q3 (ps_cons q4 (ps_cons q5 ps_nil))))))))))))))) ?_
  have eb : byOk x n d = false := by
    rw [byOk_eq hx hn hd]
    unfold byRaw
    rw [q0, q1, q2, q3, q4, q5]
    rfl
  show _ = Value.tuple #[.int .i64 (byLo x n d), .int .i64 (byHi x n d), .bool (byOk x n d)]
  rw [eb]
  rfl
theorem by6_run (x n d : Int) : runF P J0 2 104 [.int .i64 x, .int .i64 n, .int .i64 d] (.b true :: (.b true :: (.b true :: (.b true :: (.b true :: (.b true :: [])))))) =
  some (.tuple #[.int .i64 (if i64B (tI (W (qv fq (tI (W (tI (W x) * tI (W n)))) (tI (W d))))) then tI (W (qv fq (tI (W (tI (W x) * tI (W n)))) (tI (W d)))) else 0), .int .i64 (if i64B (tI (W (qv cq (tI (W (tI (W x) * tI (W n)))) (tI (W d))))) then tI (W (qv cq (tI (W (tI (W x) * tI (W n)))) (tI (W d)))) else 0), .bool (decide ((if i64B (tI (W (qv cq (tI (W (tI (W x) * tI (W n)))) (tI (W d))))) then tI (W (qv cq (tI (W (tI (W x) * tI (W n)))) (tI (W d)))) else 0) ≤ 1152921504606846976))],
    [ofP [.int .i64 x],
     ofP [.int .i64 n],
     P2 [W x, W n],
     ofP [.int .i64 d],
     P2 [W (tI (W x) * tI (W n)), W d],
     ofP [.int .i64 d],
     P2 [W (tI (W x) * tI (W n)), W d],
     P1 [W (qv fq (tI (W (tI (W x) * tI (W n)))) (tI (W d)))],
     P1 [W (qv cq (tI (W (tI (W x) * tI (W n)))) (tI (W d)))],
     (qe (tI (W (tI (W x) * tI (W n)))) (tI (W d)) == 0) = true,
     (i64B (tI (W (qv fq (tI (W (tI (W x) * tI (W n)))) (tI (W d)))))) = true,
     (i64B (tI (W (qv cq (tI (W (tI (W x) * tI (W n)))) (tI (W d)))))) = true,
     (decide ((if i64B (tI (W (qv fq (tI (W (tI (W x) * tI (W n)))) (tI (W d))))) then tI (W (qv fq (tI (W (tI (W x) * tI (W n)))) (tI (W d)))) else 0) ≥ -1152921504606846976)) = true,
     (decide ((if i64B (tI (W (qv fq (tI (W (tI (W x) * tI (W n)))) (tI (W d))))) then tI (W (qv fq (tI (W (tI (W x) * tI (W n)))) (tI (W d)))) else 0) ≤ 1152921504606846976)) = true,
     (decide ((if i64B (tI (W (qv cq (tI (W (tI (W x) * tI (W n)))) (tI (W d))))) then tI (W (qv cq (tI (W (tI (W x) * tI (W n)))) (tI (W d)))) else 0) ≥ -1152921504606846976)) = true]) := by kernel_rfl
theorem by6_leaf (x n d : Int) (hx : I64 x) (hn : I64 n) (hd : I64 d) (q0 : (qe (x * n) d == 0) = true) (q1 : i64B (qv fq (x * n) d) = true) (q2 : i64B (qv cq (x * n) d) = true) (q3 : decide (byLo x n d ≥ -1152921504606846976) = true) (q4 : decide (byLo x n d ≤ 1152921504606846976) = true) (q5 : decide (byHi x n d ≥ -1152921504606846976) = true) : Gives P 104 #[.int .i64 x, .int .i64 n, .int .i64 d] (byV [.int .i64 x, .int .i64 n, .int .i64 d]) := by
  have e0 : tI (W x) = x := tI_in (i64_in hx)
  have e1 : tI (W n) = n := tI_in (i64_in hn)
  have e2 : tI (W (x * n)) = x * n := tI_in (inR_of (smmul hx hn))
  have e3 : tI (W d) = d := tI_in (i64_in hd)
  have e4 : tI (W (qv fq ((x * n)) d)) = qv fq ((x * n)) d := tI_in (qvf_in (smmul hx hn) (sm64 hd))
  have e5 : tI (W (qv cq ((x * n)) d)) = qv cq ((x * n)) d := tI_in (qvc_in (smmul hx hn) (sm64 hd))
  have R := by6_run x n d
  rw [e0, e1, e2, e3, e4, e5] at R
  refine gives_of_run mo R (ps_cons hx (ps_cons hn (ps_cons (P2_W _ _) (ps_cons hd (ps_cons (P2_W _ _) (ps_cons hd (ps_cons (P2_W _ _) (ps_cons (P1_W _) (ps_cons (P1_W _) (ps_cons q0 (ps_cons q1 (ps_cons q2 (ps_cons q3 (ps_cons q4 (ps_cons q5 ps_nil))))))))))))))) ?_
  have eb : byOk x n d = decide (byHi x n d ≤ 1152921504606846976) := by
    rw [byOk_eq hx hn hd]
    unfold byRaw
    rw [q0, q1, q2, q3, q4, q5]
    rfl
  show _ = Value.tuple #[.int .i64 (byLo x n d), .int .i64 (byHi x n d), .bool (byOk x n d)]
  rw [eb]
  rfl
theorem by_gives (args : List Value) (h : byP args) : Gives P 104 args.toArray (byV args) := by
  unfold byP at h
  split at h
  · rename_i x n d
    obtain ⟨hx, hn, hd⟩ := h
    cases q0 : (qe (x * n) d == 0) with
    | false => exact by0_leaf x n d hx hn hd q0
    | true =>
    cases q1 : i64B (qv fq (x * n) d) with
    | false => exact by1_leaf x n d hx hn hd q0 q1
    | true =>
    cases q2 : i64B (qv cq (x * n) d) with
    | false => exact by2_leaf x n d hx hn hd q0 q1 q2
    | true =>
    cases q3 : decide (byLo x n d ≥ -1152921504606846976) with
    | false => exact by3_leaf x n d hx hn hd q0 q1 q2 q3
    | true =>
    cases q4 : decide (byLo x n d ≤ 1152921504606846976) with
    | false => exact by4_leaf x n d hx hn hd q0 q1 q2 q3 q4
    | true =>
    cases q5 : decide (byHi x n d ≥ -1152921504606846976) with
    | false => exact by5_leaf x n d hx hn hd q0 q1 q2 q3 q4 q5
    | true =>
    exact by6_leaf x n d hx hn hd q0 q1 q2 q3 q4 q5
  · exact h.elim
noncomputable def cBy : Ctr P := ⟨104, byP, byV, by_gives⟩
noncomputable def J1 : Env P := ⟨⟨[cBy], [cFine]⟩, [], 10, []⟩

/-! ### The others -/
def one1 (f : Iv → Value) : List Value → Value
  | [x] => f (rd x)
  | _ => undef
def two2 (f : Iv → Iv → Value) : List Value → Value
  | [x, y] => f (rd x) (rd y)
  | _ => undef
def iP1 : List Value → Prop
  | [x] => ∃ a, x = I a
  | _ => False
def iP2 : List Value → Prop
  | [x, y] => (∃ a, x = I a) ∧ ∃ b, y = I b
  | _ => False
def nP1 : List Value → Prop
  | [.int .i64 n] => I64 n
  | _ => False
def nP2 : List Value → Prop
  | [.int .i64 n, .int .i64 m] => I64 n ∧ I64 m
  | _ => False
def partP : List Value → Prop
  | [x, .int .i64 n, .int .i64 d] => (∃ a, x = I a) ∧ I64 n ∧ I64 d
  | _ => False
def n1V (f : Int → Value) : List Value → Value
  | [.int _ n] => f n
  | _ => undef
def n2V (f : Int → Int → Value) : List Value → Value
  | [.int _ n, .int _ m] => f n m
  | _ => undef
def partV : List Value → Value
  | [x, .int _ n, .int _ d] => I (partI (rd x) n d)
  | _ => undef
theorem i64one : I64 1073741824 := by unfold I64; omega
theorem neg_t {b : Bool} (h : b = false) : (!b) = true := by rw [h]; rfl
theorem neg_f {b : Bool} (h : b = true) : (!b) = false := by rw [h]; rfl
theorem fine_wr {a : Iv} (h : fine a = true) : I64 a.lo ∧ I64 a.hi := by have := fine_iff.1 h; unfold I64; omega
theorem wr {n : Int} (h1 : -9223372036854775808 ≤ n) (h2 : n < 9223372036854775808) : IntKind.i64.wrap n = n := wrap_i64_in h1 h2
theorem add0_run (a b : Iv) : runF P J1 3 14 [I a, I b] (.lit :: (.b true :: [])) =
  some (I (⟨0, 0, true⟩),
    [fineP [ivs [a, b]],
     (!(fineL [a, b])) = true]) := by kernel_rfl
theorem add0_leaf (a b : Iv) (hf : fineL [a, b] = false) : Gives P 14 #[I a, I b] (I (addI a b)) := by
  have R := add0_run a b
  refine gives_of_run mo R (ps_cons (ivs_ok (by simp)) (ps_cons (neg_t hf) ps_nil)) ?_
  unfold addI
  rw [hf]
  rfl
theorem add1_run (a b : Iv) : runF P J1 3 14 [I a, I b] (.lit :: (.b false :: (.lit :: (.lit :: (.b true :: []))))) =
  some (I (⟨IntKind.i64.wrap (a.lo + b.lo), IntKind.i64.wrap (a.hi + b.hi), false⟩),
    [fineP [ivs [a, b]],
     (!(fineL [a, b])) = false,
     fineP [ivs [⟨IntKind.i64.wrap (a.lo + b.lo), IntKind.i64.wrap (a.hi + b.hi), false⟩]],
     (fineL [⟨IntKind.i64.wrap (a.lo + b.lo), IntKind.i64.wrap (a.hi + b.hi), false⟩]) = true]) := by kernel_rfl
theorem add1_leaf (a b : Iv) (hf : fineL [a, b] = true) (er : (⟨IntKind.i64.wrap (a.lo + b.lo), IntKind.i64.wrap (a.hi + b.hi), false⟩ : Iv) = ⟨a.lo + b.lo, a.hi + b.hi, false⟩) (hg : fineL [(⟨IntKind.i64.wrap (a.lo + b.lo), IntKind.i64.wrap (a.hi + b.hi), false⟩ : Iv)] = true) : Gives P 14 #[I a, I b] (I (addI a b)) := by
  have R := add1_run a b
  refine gives_of_run mo R (ps_cons (ivs_ok (by simp)) (ps_cons (neg_f hf) (ps_cons (ivs_ok (by simp)) (ps_cons hg ps_nil)))) ?_
  unfold addI
  rw [hf, ← er, told_ok (fine1 ▸ hg)]
  rfl
theorem add2_run (a b : Iv) : runF P J1 3 14 [I a, I b] (.lit :: (.b false :: (.lit :: (.lit :: (.b false :: []))))) =
  some (I (⟨0, 0, true⟩),
    [fineP [ivs [a, b]],
     (!(fineL [a, b])) = false,
     fineP [ivs [⟨IntKind.i64.wrap (a.lo + b.lo), IntKind.i64.wrap (a.hi + b.hi), false⟩]],
     (fineL [⟨IntKind.i64.wrap (a.lo + b.lo), IntKind.i64.wrap (a.hi + b.hi), false⟩]) = false]) := by kernel_rfl
theorem add2_leaf (a b : Iv) (hf : fineL [a, b] = true) (er : (⟨IntKind.i64.wrap (a.lo + b.lo), IntKind.i64.wrap (a.hi + b.hi), false⟩ : Iv) = ⟨a.lo + b.lo, a.hi + b.hi, false⟩) (hg : fineL [(⟨IntKind.i64.wrap (a.lo + b.lo), IntKind.i64.wrap (a.hi + b.hi), false⟩ : Iv)] = false) : Gives P 14 #[I a, I b] (I (addI a b)) := by
  have R := add2_run a b
  refine gives_of_run mo R (ps_cons (ivs_ok (by simp)) (ps_cons (neg_f hf) (ps_cons (ivs_ok (by simp)) (ps_cons hg ps_nil)))) ?_
  unfold addI
  rw [hf, ← er, told_no (fine1 ▸ hg)]
  rfl
theorem add_gives (args : List Value) (h : iP2 args) : Gives P 14 args.toArray ((two2 fun a b => I (addI a b)) args) := by
  unfold iP2 at h
  split at h
  · obtain ⟨⟨a, rfl⟩, b, rfl⟩ := h
    show Gives P _ #[I a, I b] (I (addI a b))
    cases hf : fineL [a, b] with
    | false => exact add0_leaf a b hf
    | true =>
      have er : (⟨IntKind.i64.wrap (a.lo + b.lo), IntKind.i64.wrap (a.hi + b.hi), false⟩ : Iv) = ⟨a.lo + b.lo, a.hi + b.hi, false⟩ := by
        have h := fine2.1 hf
        have := fine_iff.1 h.1
        have := fine_iff.1 h.2
        rw [wr (by omega) (by omega), wr (by omega) (by omega)]
      cases hg : fineL [(⟨IntKind.i64.wrap (a.lo + b.lo), IntKind.i64.wrap (a.hi + b.hi), false⟩ : Iv)] with
      | true => exact add1_leaf a b hf er hg
      | false => exact add2_leaf a b hf er hg
  · exact h.elim
noncomputable def cAdd : Ctr P := ⟨14, iP2, two2 fun a b => I (addI a b), add_gives⟩
theorem sub0_run (a b : Iv) : runF P J1 3 15 [I a, I b] (.lit :: (.b true :: [])) =
  some (I (⟨0, 0, true⟩),
    [fineP [ivs [a, b]],
     (!(fineL [a, b])) = true]) := by kernel_rfl
theorem sub0_leaf (a b : Iv) (hf : fineL [a, b] = false) : Gives P 15 #[I a, I b] (I (subI a b)) := by
  have R := sub0_run a b
  refine gives_of_run mo R (ps_cons (ivs_ok (by simp)) (ps_cons (neg_t hf) ps_nil)) ?_
  unfold subI
  rw [hf]
  rfl
theorem sub1_run (a b : Iv) : runF P J1 3 15 [I a, I b] (.lit :: (.b false :: (.lit :: (.lit :: (.b true :: []))))) =
  some (I (⟨IntKind.i64.wrap (a.lo - b.hi), IntKind.i64.wrap (a.hi - b.lo), false⟩),
    [fineP [ivs [a, b]],
     (!(fineL [a, b])) = false,
     fineP [ivs [⟨IntKind.i64.wrap (a.lo - b.hi), IntKind.i64.wrap (a.hi - b.lo), false⟩]],
     (fineL [⟨IntKind.i64.wrap (a.lo - b.hi), IntKind.i64.wrap (a.hi - b.lo), false⟩]) = true]) := by kernel_rfl
theorem sub1_leaf (a b : Iv) (hf : fineL [a, b] = true) (er : (⟨IntKind.i64.wrap (a.lo - b.hi), IntKind.i64.wrap (a.hi - b.lo), false⟩ : Iv) = ⟨a.lo - b.hi, a.hi - b.lo, false⟩) (hg : fineL [(⟨IntKind.i64.wrap (a.lo - b.hi), IntKind.i64.wrap (a.hi - b.lo), false⟩ : Iv)] = true) : Gives P 15 #[I a, I b] (I (subI a b)) := by
  have R := sub1_run a b
  refine gives_of_run mo R (ps_cons (ivs_ok (by simp)) (ps_cons (neg_f hf) (ps_cons (ivs_ok (by simp)) (ps_cons hg ps_nil)))) ?_
  unfold subI
  rw [hf, ← er, told_ok (fine1 ▸ hg)]
  rfl
theorem sub2_run (a b : Iv) : runF P J1 3 15 [I a, I b] (.lit :: (.b false :: (.lit :: (.lit :: (.b false :: []))))) =
  some (I (⟨0, 0, true⟩),
    [fineP [ivs [a, b]],
     (!(fineL [a, b])) = false,
     fineP [ivs [⟨IntKind.i64.wrap (a.lo - b.hi), IntKind.i64.wrap (a.hi - b.lo), false⟩]],
     (fineL [⟨IntKind.i64.wrap (a.lo - b.hi), IntKind.i64.wrap (a.hi - b.lo), false⟩]) = false]) := by kernel_rfl
theorem sub2_leaf (a b : Iv) (hf : fineL [a, b] = true) (er : (⟨IntKind.i64.wrap (a.lo - b.hi), IntKind.i64.wrap (a.hi - b.lo), false⟩ : Iv) = ⟨a.lo - b.hi, a.hi - b.lo, false⟩) (hg : fineL [(⟨IntKind.i64.wrap (a.lo - b.hi), IntKind.i64.wrap (a.hi - b.lo), false⟩ : Iv)] = false) : Gives P 15 #[I a, I b] (I (subI a b)) := by
  have R := sub2_run a b
  refine gives_of_run mo R (ps_cons (ivs_ok (by simp)) (ps_cons (neg_f hf) (ps_cons (ivs_ok (by simp)) (ps_cons hg ps_nil)))) ?_
  unfold subI
  rw [hf, ← er, told_no (fine1 ▸ hg)]
  rfl
theorem sub_gives (args : List Value) (h : iP2 args) : Gives P 15 args.toArray ((two2 fun a b => I (subI a b)) args) := by
  unfold iP2 at h
  split at h
  · obtain ⟨⟨a, rfl⟩, b, rfl⟩ := h
    show Gives P _ #[I a, I b] (I (subI a b))
    cases hf : fineL [a, b] with
    | false => exact sub0_leaf a b hf
    | true =>
      have er : (⟨IntKind.i64.wrap (a.lo - b.hi), IntKind.i64.wrap (a.hi - b.lo), false⟩ : Iv) = ⟨a.lo - b.hi, a.hi - b.lo, false⟩ := by
        have h := fine2.1 hf
        have := fine_iff.1 h.1
        have := fine_iff.1 h.2
        rw [wr (by omega) (by omega), wr (by omega) (by omega)]
      cases hg : fineL [(⟨IntKind.i64.wrap (a.lo - b.hi), IntKind.i64.wrap (a.hi - b.lo), false⟩ : Iv)] with
      | true => exact sub1_leaf a b hf er hg
      | false => exact sub2_leaf a b hf er hg
  · exact h.elim
noncomputable def cSub : Ctr P := ⟨15, iP2, two2 fun a b => I (subI a b), sub_gives⟩
theorem meet0_run (a b : Iv) : runF P J1 3 22 [I a, I b] (.lit :: (.b true :: [])) =
  some (I (⟨0, 0, true⟩),
    [fineP [ivs [a, b]],
     (!(fineL [a, b])) = true]) := by kernel_rfl
theorem meet0_leaf (a b : Iv) (hf : fineL [a, b] = false) : Gives P 22 #[I a, I b] (I (meetI a b)) := by
  have R := meet0_run a b
  refine gives_of_run mo R (ps_cons (ivs_ok (by simp)) (ps_cons (neg_t hf) ps_nil)) ?_
  unfold meetI
  rw [hf]
  rfl
theorem meet1_run (a b : Iv) : runF P J1 3 22 [I a, I b] (.lit :: (.b false :: (.lit :: (.lit :: (.b true :: []))))) =
  some (I (⟨if b.lo > a.lo then b.lo else a.lo, if b.hi < a.hi then b.hi else a.hi, false⟩),
    [fineP [ivs [a, b]],
     (!(fineL [a, b])) = false,
     fineP [ivs [⟨if b.lo > a.lo then b.lo else a.lo, if b.hi < a.hi then b.hi else a.hi, false⟩]],
     (fineL [⟨if b.lo > a.lo then b.lo else a.lo, if b.hi < a.hi then b.hi else a.hi, false⟩]) = true]) := by kernel_rfl
theorem meet1_leaf (a b : Iv) (hf : fineL [a, b] = true) (er : (⟨if b.lo > a.lo then b.lo else a.lo, if b.hi < a.hi then b.hi else a.hi, false⟩ : Iv) = ⟨mx a.lo b.lo, mn a.hi b.hi, false⟩) (hg : fineL [(⟨if b.lo > a.lo then b.lo else a.lo, if b.hi < a.hi then b.hi else a.hi, false⟩ : Iv)] = true) : Gives P 22 #[I a, I b] (I (meetI a b)) := by
  have R := meet1_run a b
  refine gives_of_run mo R (ps_cons (ivs_ok (by simp)) (ps_cons (neg_f hf) (ps_cons (ivs_ok (by simp)) (ps_cons hg ps_nil)))) ?_
  unfold meetI
  rw [hf, ← er, told_ok (fine1 ▸ hg)]
  rfl
theorem meet2_run (a b : Iv) : runF P J1 3 22 [I a, I b] (.lit :: (.b false :: (.lit :: (.lit :: (.b false :: []))))) =
  some (I (⟨0, 0, true⟩),
    [fineP [ivs [a, b]],
     (!(fineL [a, b])) = false,
     fineP [ivs [⟨if b.lo > a.lo then b.lo else a.lo, if b.hi < a.hi then b.hi else a.hi, false⟩]],
     (fineL [⟨if b.lo > a.lo then b.lo else a.lo, if b.hi < a.hi then b.hi else a.hi, false⟩]) = false]) := by kernel_rfl
theorem meet2_leaf (a b : Iv) (hf : fineL [a, b] = true) (er : (⟨if b.lo > a.lo then b.lo else a.lo, if b.hi < a.hi then b.hi else a.hi, false⟩ : Iv) = ⟨mx a.lo b.lo, mn a.hi b.hi, false⟩) (hg : fineL [(⟨if b.lo > a.lo then b.lo else a.lo, if b.hi < a.hi then b.hi else a.hi, false⟩ : Iv)] = false) : Gives P 22 #[I a, I b] (I (meetI a b)) := by
  have R := meet2_run a b
  refine gives_of_run mo R (ps_cons (ivs_ok (by simp)) (ps_cons (neg_f hf) (ps_cons (ivs_ok (by simp)) (ps_cons hg ps_nil)))) ?_
  unfold meetI
  rw [hf, ← er, told_no (fine1 ▸ hg)]
  rfl
theorem meet_gives (args : List Value) (h : iP2 args) : Gives P 22 args.toArray ((two2 fun a b => I (meetI a b)) args) := by
  unfold iP2 at h
  split at h
  · obtain ⟨⟨a, rfl⟩, b, rfl⟩ := h
    show Gives P _ #[I a, I b] (I (meetI a b))
    cases hf : fineL [a, b] with
    | false => exact meet0_leaf a b hf
    | true =>
      have er : (⟨if b.lo > a.lo then b.lo else a.lo, if b.hi < a.hi then b.hi else a.hi, false⟩ : Iv) = ⟨mx a.lo b.lo, mn a.hi b.hi, false⟩ := by
        rfl
      cases hg : fineL [(⟨if b.lo > a.lo then b.lo else a.lo, if b.hi < a.hi then b.hi else a.hi, false⟩ : Iv)] with
      | true => exact meet1_leaf a b hf er hg
      | false => exact meet2_leaf a b hf er hg
  · exact h.elim
noncomputable def cMeet : Ctr P := ⟨22, iP2, two2 fun a b => I (meetI a b), meet_gives⟩
theorem neg0_run (a : Iv) : runF P J1 3 18 [I a] (.lit :: (.b true :: [])) =
  some (I (⟨0, 0, true⟩),
    [fineP [ivs [a]],
     (!(fineL [a])) = true]) := by kernel_rfl
theorem neg0_leaf (a : Iv) (hf : fineL [a] = false) : Gives P 18 #[I a] (I (negI a)) := by
  have R := neg0_run a
  refine gives_of_run mo R (ps_cons (ivs_ok (by simp)) (ps_cons (neg_t hf) ps_nil)) ?_
  unfold negI
  rw [hf]
  rfl
theorem neg1_run (a : Iv) : runF P J1 3 18 [I a] (.lit :: (.b false :: (.lit :: (.lit :: (.b true :: []))))) =
  some (I (⟨IntKind.i64.wrap (0 - a.hi), IntKind.i64.wrap (0 - a.lo), false⟩),
    [fineP [ivs [a]],
     (!(fineL [a])) = false,
     fineP [ivs [⟨IntKind.i64.wrap (0 - a.hi), IntKind.i64.wrap (0 - a.lo), false⟩]],
     (fineL [⟨IntKind.i64.wrap (0 - a.hi), IntKind.i64.wrap (0 - a.lo), false⟩]) = true]) := by kernel_rfl
theorem neg1_leaf (a : Iv) (hf : fineL [a] = true) (er : (⟨IntKind.i64.wrap (0 - a.hi), IntKind.i64.wrap (0 - a.lo), false⟩ : Iv) = ⟨-a.hi, -a.lo, false⟩) (hg : fineL [(⟨IntKind.i64.wrap (0 - a.hi), IntKind.i64.wrap (0 - a.lo), false⟩ : Iv)] = true) : Gives P 18 #[I a] (I (negI a)) := by
  have R := neg1_run a
  refine gives_of_run mo R (ps_cons (ivs_ok (by simp)) (ps_cons (neg_f hf) (ps_cons (ivs_ok (by simp)) (ps_cons hg ps_nil)))) ?_
  unfold negI
  rw [hf, ← er, told_ok (fine1 ▸ hg)]
  rfl
theorem neg2_run (a : Iv) : runF P J1 3 18 [I a] (.lit :: (.b false :: (.lit :: (.lit :: (.b false :: []))))) =
  some (I (⟨0, 0, true⟩),
    [fineP [ivs [a]],
     (!(fineL [a])) = false,
     fineP [ivs [⟨IntKind.i64.wrap (0 - a.hi), IntKind.i64.wrap (0 - a.lo), false⟩]],
     (fineL [⟨IntKind.i64.wrap (0 - a.hi), IntKind.i64.wrap (0 - a.lo), false⟩]) = false]) := by kernel_rfl
theorem neg2_leaf (a : Iv) (hf : fineL [a] = true) (er : (⟨IntKind.i64.wrap (0 - a.hi), IntKind.i64.wrap (0 - a.lo), false⟩ : Iv) = ⟨-a.hi, -a.lo, false⟩) (hg : fineL [(⟨IntKind.i64.wrap (0 - a.hi), IntKind.i64.wrap (0 - a.lo), false⟩ : Iv)] = false) : Gives P 18 #[I a] (I (negI a)) := by
  have R := neg2_run a
  refine gives_of_run mo R (ps_cons (ivs_ok (by simp)) (ps_cons (neg_f hf) (ps_cons (ivs_ok (by simp)) (ps_cons hg ps_nil)))) ?_
  unfold negI
  rw [hf, ← er, told_no (fine1 ▸ hg)]
  rfl
theorem neg_gives (args : List Value) (h : iP1 args) : Gives P 18 args.toArray ((one1 fun a => I (negI a)) args) := by
  unfold iP1 at h
  split at h
  · obtain ⟨a, rfl⟩ := h
    show Gives P _ #[I a] (I (negI a))
    cases hf : fineL [a] with
    | false => exact neg0_leaf a hf
    | true =>
      have er : (⟨IntKind.i64.wrap (0 - a.hi), IntKind.i64.wrap (0 - a.lo), false⟩ : Iv) = ⟨-a.hi, -a.lo, false⟩ := by
        have := fine_iff.1 (fine1 ▸ hf)
        rw [Int.zero_sub, Int.zero_sub, wr (by omega) (by omega), wr (by omega) (by omega)]
      cases hg : fineL [(⟨IntKind.i64.wrap (0 - a.hi), IntKind.i64.wrap (0 - a.lo), false⟩ : Iv)] with
      | true => exact neg1_leaf a hf er hg
      | false => exact neg2_leaf a hf er hg
  · exact h.elim
noncomputable def cNeg : Ctr P := ⟨18, iP1, one1 fun a => I (negI a), neg_gives⟩
theorem point1_run (n : Int) : runF P J1 3 24 [.int .i64 n] (.lit :: (.lit :: (.lit :: (.b true :: [])))) =
  some (I (⟨n, n, false⟩),
    [fineP [.v (.slice none 0 0)],
     fineP [ivs [⟨n, n, false⟩]],
     (fineL [⟨n, n, false⟩]) = true]) := by kernel_rfl
theorem point1_leaf (n : Int) (hg : fineL [(⟨n, n, false⟩ : Iv)] = true) : Gives P 24 #[.int .i64 n] (I (pointI n)) := by
  have R := point1_run n
  refine gives_of_run mo R (ps_cons rfl (ps_cons (ivs_ok (by simp)) (ps_cons hg ps_nil))) ?_
  show _ = I (told (⟨n, n, false⟩ : Iv))
  rw [told_ok (fine1 ▸ hg)]
  all_goals rfl
theorem point2_run (n : Int) : runF P J1 3 24 [.int .i64 n] (.lit :: (.lit :: (.lit :: (.b false :: [])))) =
  some (I (⟨0, 0, true⟩),
    [fineP [.v (.slice none 0 0)],
     fineP [ivs [⟨n, n, false⟩]],
     (fineL [⟨n, n, false⟩]) = false]) := by kernel_rfl
theorem point2_leaf (n : Int) (hg : fineL [(⟨n, n, false⟩ : Iv)] = false) : Gives P 24 #[.int .i64 n] (I (pointI n)) := by
  have R := point2_run n
  refine gives_of_run mo R (ps_cons rfl (ps_cons (ivs_ok (by simp)) (ps_cons hg ps_nil))) ?_
  show _ = I (told (⟨n, n, false⟩ : Iv))
  rw [told_no (fine1 ▸ hg)]
  all_goals rfl
theorem point_gives (args : List Value) (h : nP1 args) : Gives P 24 args.toArray ((n1V fun n => I (pointI n)) args) := by
  unfold nP1 at h
  split at h
  · rename_i n
    cases hg : fineL [(⟨n, n, false⟩ : Iv)] with
    | true => exact point1_leaf n hg
    | false => exact point2_leaf n hg
  · exact h.elim
noncomputable def cPoint : Ctr P := ⟨24, nP1, n1V fun n => I (pointI n), point_gives⟩
theorem make1_run (n d : Int) : runF P J1 3 27 [.int .i64 n, .int .i64 d] (.lit :: (.lit :: (.lit :: (.b true :: [])))) =
  some (I (⟨if d < n then d else n, if d > n then d else n, false⟩),
    [fineP [.v (.slice none 0 0)],
     fineP [ivs [⟨if d < n then d else n, if d > n then d else n, false⟩]],
     (fineL [⟨if d < n then d else n, if d > n then d else n, false⟩]) = true]) := by kernel_rfl
theorem make1_leaf (n d : Int) (hg : fineL [(⟨if d < n then d else n, if d > n then d else n, false⟩ : Iv)] = true) : Gives P 27 #[.int .i64 n, .int .i64 d] (I (makeI n d)) := by
  have R := make1_run n d
  refine gives_of_run mo R (ps_cons rfl (ps_cons (ivs_ok (by simp)) (ps_cons hg ps_nil))) ?_
  show _ = I (told (⟨if d < n then d else n, if d > n then d else n, false⟩ : Iv))
  rw [told_ok (fine1 ▸ hg)]
  all_goals rfl
theorem make2_run (n d : Int) : runF P J1 3 27 [.int .i64 n, .int .i64 d] (.lit :: (.lit :: (.lit :: (.b false :: [])))) =
  some (I (⟨0, 0, true⟩),
    [fineP [.v (.slice none 0 0)],
     fineP [ivs [⟨if d < n then d else n, if d > n then d else n, false⟩]],
     (fineL [⟨if d < n then d else n, if d > n then d else n, false⟩]) = false]) := by kernel_rfl
theorem make2_leaf (n d : Int) (hg : fineL [(⟨if d < n then d else n, if d > n then d else n, false⟩ : Iv)] = false) : Gives P 27 #[.int .i64 n, .int .i64 d] (I (makeI n d)) := by
  have R := make2_run n d
  refine gives_of_run mo R (ps_cons rfl (ps_cons (ivs_ok (by simp)) (ps_cons hg ps_nil))) ?_
  show _ = I (told (⟨if d < n then d else n, if d > n then d else n, false⟩ : Iv))
  rw [told_no (fine1 ▸ hg)]
  all_goals rfl
theorem make_gives (args : List Value) (h : nP2 args) : Gives P 27 args.toArray ((n2V fun n d => I (makeI n d)) args) := by
  unfold nP2 at h
  split at h
  · rename_i n d
    cases hg : fineL [(⟨if d < n then d else n, if d > n then d else n, false⟩ : Iv)] with
    | true => exact make1_leaf n d hg
    | false => exact make2_leaf n d hg
  · exact h.elim
noncomputable def cMake : Ctr P := ⟨27, nP2, n2V fun n d => I (makeI n d), make_gives⟩
theorem width0_run (a : Iv) : runF P J1 1 26 [I a] (.lit :: (.b true :: [])) =
  some (.int .i64 (-1),
    [fineP [ivs [a]],
     (!(fineL [a])) = true]) := by kernel_rfl
theorem width0_leaf (a : Iv) (hf : fineL [a] = false) : Gives P 26 #[I a] (.int .i64 (widthI a)) := by
  have R := width0_run a
  refine gives_of_run mo R (ps_cons (ivs_ok (by simp)) (ps_cons (neg_t hf) ps_nil)) ?_
  unfold widthI
  rw [hf]
  rfl
theorem width1_run (a : Iv) : runF P J1 1 26 [I a] (.lit :: (.b false :: [])) =
  some (.int .i64 (IntKind.i64.wrap (a.hi - a.lo)),
    [fineP [ivs [a]],
     (!(fineL [a])) = false]) := by kernel_rfl
theorem width1_leaf (a : Iv) (hf : fineL [a] = true) : Gives P 26 #[I a] (.int .i64 (widthI a)) := by
  have := fine_iff.1 (fine1 ▸ hf)
  have e : IntKind.i64.wrap (a.hi - a.lo) = a.hi - a.lo := wr (by omega) (by omega)
  have R := width1_run a
  refine gives_of_run mo R (ps_cons (ivs_ok (by simp)) (ps_cons (neg_f hf) ps_nil)) ?_
  unfold widthI
  rw [hf, e]
  rfl
theorem width_gives (args : List Value) (h : iP1 args) : Gives P 26 args.toArray ((one1 fun a => .int .i64 (widthI a)) args) := by
  unfold iP1 at h
  split at h
  · obtain ⟨a, rfl⟩ := h
    cases hf : fineL [a] with
    | false => exact width0_leaf a hf
    | true => exact width1_leaf a hf
  · exact h.elim
noncomputable def cWidth : Ctr P := ⟨26, iP1, one1 fun a => .int .i64 (widthI a), width_gives⟩
theorem mul0_run (a b : Iv) : runF P J1 3 16 [I a, I b] (.lit :: (.b true :: [])) =
  some (I (⟨0, 0, true⟩),
    [fineP [ivs [a, b]],
     (!(fineL [a, b])) = true]) := by kernel_rfl
theorem mul0_leaf (a b : Iv) (hf : fineL [a, b] = false) : Gives P 16 #[I a, I b] (I (mulI a b)) := by
  have R := mul0_run a b
  refine gives_of_run mo R (ps_cons (ivs_ok (by simp)) (ps_cons (neg_t hf) ps_nil)) ?_
  unfold mulI
  rw [hf]
  rfl
theorem mulf0_run (a b : Iv) : runF P J1 5 16 [I a, I b] (.lit :: (.b false :: (lits 6 (.b true :: (.lit :: (.b false :: [])))))) =
  some (I (⟨0, 0, true⟩),
    [fineP [ivs [a, b]],
     (!(fineL [a, b])) = false,
     byP [.int .i64 a.lo, .int .i64 b.lo, .int .i64 1073741824],
     (!(byOk a.lo b.lo 1073741824)) = true,
     (byOk a.lo b.lo 1073741824) = false]) := by kernel_rfl
theorem mulf0_leaf (a b : Iv) (hf : fineL [a, b] = true) (q0 : byOk a.lo b.lo 1073741824 = false) : Gives P 16 #[I a, I b] (I (mulI a b)) := by
  have h := fine2.1 hf
  obtain ⟨w1, w2⟩ := fine_wr h.1
  obtain ⟨w3, w4⟩ := fine_wr h.2
  have R := mulf0_run a b
  refine gives_of_run mo R (ps_cons (ivs_ok (by simp)) (ps_cons (neg_f hf) (ps_cons ⟨w1, w3, i64one⟩ (ps_cons (neg_t q0) (ps_cons q0 ps_nil))))) ?_
  unfold mulI
  rw [hf, q0]
  rfl
theorem mulf1_run (a b : Iv) : runF P J1 6 16 [I a, I b] (.lit :: (.b false :: (lits 6 (.b false :: (lits 4 (.b true :: (.b true :: (.lit :: (.b false :: []))))))))) =
  some (I (⟨0, 0, true⟩),
    [fineP [ivs [a, b]],
     (!(fineL [a, b])) = false,
     byP [.int .i64 a.lo, .int .i64 b.lo, .int .i64 1073741824],
     (!(byOk a.lo b.lo 1073741824)) = false,
     byP [.int .i64 a.lo, .int .i64 b.hi, .int .i64 1073741824],
     (byOk a.lo b.lo 1073741824) = true,
     (!(byOk a.lo b.hi 1073741824)) = true,
     (byOk a.lo b.hi 1073741824) = false]) := by kernel_rfl
theorem mulf1_leaf (a b : Iv) (hf : fineL [a, b] = true) (q0 : byOk a.lo b.lo 1073741824 = true) (q1 : byOk a.lo b.hi 1073741824 = false) : Gives P 16 #[I a, I b] (I (mulI a b)) := by
  have h := fine2.1 hf
  obtain ⟨w1, w2⟩ := fine_wr h.1
  obtain ⟨w3, w4⟩ := fine_wr h.2
  have R := mulf1_run a b
  refine gives_of_run mo R (ps_cons (ivs_ok (by simp)) (ps_cons (neg_f hf) (ps_cons ⟨w1, w3, i64one⟩ (ps_cons (neg_f q0) (ps_cons ⟨w1, w4, i64one⟩ (ps_cons q0 (ps_cons (neg_t q1) (ps_cons q1 ps_nil)))))))) ?_
  unfold mulI
  rw [hf, q0, q1]
  rfl
theorem mulf2_run (a b : Iv) : runF P J1 6 16 [I a, I b] (.lit :: (.b false :: (lits 6 (.b false :: (lits 4 (.b true :: (.b false :: (lits 4 (.b true :: (.b true :: (.lit :: (.b false :: [])))))))))))) =
  some (I (⟨0, 0, true⟩),
    [fineP [ivs [a, b]],
     (!(fineL [a, b])) = false,
     byP [.int .i64 a.lo, .int .i64 b.lo, .int .i64 1073741824],
     (!(byOk a.lo b.lo 1073741824)) = false,
     byP [.int .i64 a.lo, .int .i64 b.hi, .int .i64 1073741824],
     (byOk a.lo b.lo 1073741824) = true,
     (!(byOk a.lo b.hi 1073741824)) = false,
     byP [.int .i64 a.hi, .int .i64 b.lo, .int .i64 1073741824],
     (byOk a.lo b.hi 1073741824) = true,
     (!(byOk a.hi b.lo 1073741824)) = true,
     (byOk a.hi b.lo 1073741824) = false]) := by kernel_rfl
theorem mulf2_leaf (a b : Iv) (hf : fineL [a, b] = true) (q0 : byOk a.lo b.lo 1073741824 = true) (q1 : byOk a.lo b.hi 1073741824 = true) (q2 : byOk a.hi b.lo 1073741824 = false) : Gives P 16 #[I a, I b] (I (mulI a b)) := by
  have h := fine2.1 hf
  obtain ⟨w1, w2⟩ := fine_wr h.1
  obtain ⟨w3, w4⟩ := fine_wr h.2
  have R := mulf2_run a b
  refine gives_of_run mo R (ps_cons (ivs_ok (by simp)) (ps_cons (neg_f hf) (ps_cons ⟨w1, w3, i64one⟩ (ps_cons (neg_f q0) (ps_cons ⟨w1, w4, i64one⟩ (ps_cons q0 (ps_cons (neg_f q1) (ps_cons ⟨w2, w3, i64one⟩ (ps_cons q1 (ps_cons (neg_t q2) (ps_cons q2 ps_nil))))))))))) ?_
  unfold mulI
  rw [hf, q0, q1, q2]
  rfl
theorem mulf3_run (a b : Iv) : runF P J1 6 16 [I a, I b] (.lit :: (.b false :: (lits 6 (.b false :: (lits 4 (.b true :: (.b false :: (lits 4 (.b true :: (.b false :: (lits 4 (.b true :: (.b true :: (.lit :: (.b false :: []))))))))))))))) =
  some (I (⟨0, 0, true⟩),
    [fineP [ivs [a, b]],
     (!(fineL [a, b])) = false,
     byP [.int .i64 a.lo, .int .i64 b.lo, .int .i64 1073741824],
     (!(byOk a.lo b.lo 1073741824)) = false,
     byP [.int .i64 a.lo, .int .i64 b.hi, .int .i64 1073741824],
     (byOk a.lo b.lo 1073741824) = true,
     (!(byOk a.lo b.hi 1073741824)) = false,
     byP [.int .i64 a.hi, .int .i64 b.lo, .int .i64 1073741824],
     (byOk a.lo b.hi 1073741824) = true,
     (!(byOk a.hi b.lo 1073741824)) = false,
     byP [.int .i64 a.hi, .int .i64 b.hi, .int .i64 1073741824],
     (byOk a.hi b.lo 1073741824) = true,
     (!(byOk a.hi b.hi 1073741824)) = true,
     (byOk a.hi b.hi 1073741824) = false]) := by kernel_rfl
theorem mulf3_leaf (a b : Iv) (hf : fineL [a, b] = true) (q0 : byOk a.lo b.lo 1073741824 = true) (q1 : byOk a.lo b.hi 1073741824 = true) (q2 : byOk a.hi b.lo 1073741824 = true) (q3 : byOk a.hi b.hi 1073741824 = false) : Gives P 16 #[I a, I b] (I (mulI a b)) := by
  have h := fine2.1 hf
  obtain ⟨w1, w2⟩ := fine_wr h.1
  obtain ⟨w3, w4⟩ := fine_wr h.2
  have R := mulf3_run a b
  refine gives_of_run mo R (ps_cons (ivs_ok (by simp)) (ps_cons (neg_f hf) (ps_cons ⟨w1, w3, i64one⟩ (ps_cons (neg_f q0) (ps_cons ⟨w1, w4, i64one⟩ (ps_cons q0 (ps_cons (neg_f q1) (ps_cons ⟨w2, w3, i64one⟩ (ps_cons q1 (ps_cons (neg_f q2) (ps_cons ⟨w2, w4, i64one⟩ (ps_cons q2 (ps_cons (neg_t q3) (ps_cons q3 ps_nil)))))))))))))) ?_
  unfold mulI
  rw [hf, q0, q1, q2, q3]
  rfl
theorem mult_run (a b : Iv) : runF P J1 6 16 [I a, I b] (.lit :: (.b false :: (lits 6 (.b false :: (lits 4 (.b true :: (.b false :: (lits 4 (.b true :: (.b false :: (lits 4 (.b true :: (.b false :: (.lit :: (.lit :: (.lit :: (.b true :: (.lit :: (.b true :: []))))))))))))))))))) =
  some (I (⟨if byLo a.hi b.hi 1073741824 < if byLo a.hi b.lo 1073741824 < if byLo a.lo b.hi 1073741824 < if byLo a.lo b.lo 1073741824 < byLo a.lo b.lo 1073741824 then byLo a.lo b.lo 1073741824 else byLo a.lo b.lo 1073741824 then byLo a.lo b.hi 1073741824 else if byLo a.lo b.lo 1073741824 < byLo a.lo b.lo 1073741824 then byLo a.lo b.lo 1073741824 else byLo a.lo b.lo 1073741824 then byLo a.hi b.lo 1073741824 else if byLo a.lo b.hi 1073741824 < if byLo a.lo b.lo 1073741824 < byLo a.lo b.lo 1073741824 then byLo a.lo b.lo 1073741824 else byLo a.lo b.lo 1073741824 then byLo a.lo b.hi 1073741824 else if byLo a.lo b.lo 1073741824 < byLo a.lo b.lo 1073741824 then byLo a.lo b.lo 1073741824 else byLo a.lo b.lo 1073741824 then byLo a.hi b.hi 1073741824 else if byLo a.hi b.lo 1073741824 < if byLo a.lo b.hi 1073741824 < if byLo a.lo b.lo 1073741824 < byLo a.lo b.lo 1073741824 then byLo a.lo b.lo 1073741824 else byLo a.lo b.lo 1073741824 then byLo a.lo b.hi 1073741824 else if byLo a.lo b.lo 1073741824 < byLo a.lo b.lo 1073741824 then byLo a.lo b.lo 1073741824 else byLo a.lo b.lo 1073741824 then byLo a.hi b.lo 1073741824 else if byLo a.lo b.hi 1073741824 < if byLo a.lo b.lo 1073741824 < byLo a.lo b.lo 1073741824 then byLo a.lo b.lo 1073741824 else byLo a.lo b.lo 1073741824 then byLo a.lo b.hi 1073741824 else if byLo a.lo b.lo 1073741824 < byLo a.lo b.lo 1073741824 then byLo a.lo b.lo 1073741824 else byLo a.lo b.lo 1073741824, if byHi a.hi b.hi 1073741824 > if byHi a.hi b.lo 1073741824 > if byHi a.lo b.hi 1073741824 > if byHi a.lo b.lo 1073741824 > byHi a.lo b.lo 1073741824 then byHi a.lo b.lo 1073741824 else byHi a.lo b.lo 1073741824 then byHi a.lo b.hi 1073741824 else if byHi a.lo b.lo 1073741824 > byHi a.lo b.lo 1073741824 then byHi a.lo b.lo 1073741824 else byHi a.lo b.lo 1073741824 then byHi a.hi b.lo 1073741824 else if byHi a.lo b.hi 1073741824 > if byHi a.lo b.lo 1073741824 > byHi a.lo b.lo 1073741824 then byHi a.lo b.lo 1073741824 else byHi a.lo b.lo 1073741824 then byHi a.lo b.hi 1073741824 else if byHi a.lo b.lo 1073741824 > byHi a.lo b.lo 1073741824 then byHi a.lo b.lo 1073741824 else byHi a.lo b.lo 1073741824 then byHi a.hi b.hi 1073741824 else if byHi a.hi b.lo 1073741824 > if byHi a.lo b.hi 1073741824 > if byHi a.lo b.lo 1073741824 > byHi a.lo b.lo 1073741824 then byHi a.lo b.lo 1073741824 else byHi a.lo b.lo 1073741824 then byHi a.lo b.hi 1073741824 else if byHi a.lo b.lo 1073741824 > byHi a.lo b.lo 1073741824 then byHi a.lo b.lo 1073741824 else byHi a.lo b.lo 1073741824 then byHi a.hi b.lo 1073741824 else if byHi a.lo b.hi 1073741824 > if byHi a.lo b.lo 1073741824 > byHi a.lo b.lo 1073741824 then byHi a.lo b.lo 1073741824 else byHi a.lo b.lo 1073741824 then byHi a.lo b.hi 1073741824 else if byHi a.lo b.lo 1073741824 > byHi a.lo b.lo 1073741824 then byHi a.lo b.lo 1073741824 else byHi a.lo b.lo 1073741824, false⟩),
    [fineP [ivs [a, b]],
     (!(fineL [a, b])) = false,
     byP [.int .i64 a.lo, .int .i64 b.lo, .int .i64 1073741824],
     (!(byOk a.lo b.lo 1073741824)) = false,
     byP [.int .i64 a.lo, .int .i64 b.hi, .int .i64 1073741824],
     (byOk a.lo b.lo 1073741824) = true,
     (!(byOk a.lo b.hi 1073741824)) = false,
     byP [.int .i64 a.hi, .int .i64 b.lo, .int .i64 1073741824],
     (byOk a.lo b.hi 1073741824) = true,
     (!(byOk a.hi b.lo 1073741824)) = false,
     byP [.int .i64 a.hi, .int .i64 b.hi, .int .i64 1073741824],
     (byOk a.hi b.lo 1073741824) = true,
     (!(byOk a.hi b.hi 1073741824)) = false,
     (byOk a.hi b.hi 1073741824) = true,
     fineP [ivs [⟨if byLo a.hi b.hi 1073741824 < if byLo a.hi b.lo 1073741824 < if byLo a.lo b.hi 1073741824 < if byLo a.lo b.lo 1073741824 < byLo a.lo b.lo 1073741824 then byLo a.lo b.lo 1073741824 else byLo a.lo b.lo 1073741824 then byLo a.lo b.hi 1073741824 else if byLo a.lo b.lo 1073741824 < byLo a.lo b.lo 1073741824 then byLo a.lo b.lo 1073741824 else byLo a.lo b.lo 1073741824 then byLo a.hi b.lo 1073741824 else if byLo a.lo b.hi 1073741824 < if byLo a.lo b.lo 1073741824 < byLo a.lo b.lo 1073741824 then byLo a.lo b.lo 1073741824 else byLo a.lo b.lo 1073741824 then byLo a.lo b.hi 1073741824 else if byLo a.lo b.lo 1073741824 < byLo a.lo b.lo 1073741824 then byLo a.lo b.lo 1073741824 else byLo a.lo b.lo 1073741824 then byLo a.hi b.hi 1073741824 else if byLo a.hi b.lo 1073741824 < if byLo a.lo b.hi 1073741824 < if byLo a.lo b.lo 1073741824 < byLo a.lo b.lo 1073741824 then byLo a.lo b.lo 1073741824 else byLo a.lo b.lo 1073741824 then byLo a.lo b.hi 1073741824 else if byLo a.lo b.lo 1073741824 < byLo a.lo b.lo 1073741824 then byLo a.lo b.lo 1073741824 else byLo a.lo b.lo 1073741824 then byLo a.hi b.lo 1073741824 else if byLo a.lo b.hi 1073741824 < if byLo a.lo b.lo 1073741824 < byLo a.lo b.lo 1073741824 then byLo a.lo b.lo 1073741824 else byLo a.lo b.lo 1073741824 then byLo a.lo b.hi 1073741824 else if byLo a.lo b.lo 1073741824 < byLo a.lo b.lo 1073741824 then byLo a.lo b.lo 1073741824 else byLo a.lo b.lo 1073741824, if byHi a.hi b.hi 1073741824 > if byHi a.hi b.lo 1073741824 > if byHi a.lo b.hi 1073741824 > if byHi a.lo b.lo 1073741824 > byHi a.lo b.lo 1073741824 then byHi a.lo b.lo 1073741824 else byHi a.lo b.lo 1073741824 then byHi a.lo b.hi 1073741824 else if byHi a.lo b.lo 1073741824 > byHi a.lo b.lo 1073741824 then byHi a.lo b.lo 1073741824 else byHi a.lo b.lo 1073741824 then byHi a.hi b.lo 1073741824 else if byHi a.lo b.hi 1073741824 > if byHi a.lo b.lo 1073741824 > byHi a.lo b.lo 1073741824 then byHi a.lo b.lo 1073741824 else byHi a.lo b.lo 1073741824 then byHi a.lo b.hi 1073741824 else if byHi a.lo b.lo 1073741824 > byHi a.lo b.lo 1073741824 then byHi a.lo b.lo 1073741824 else byHi a.lo b.lo 1073741824 then byHi a.hi b.hi 1073741824 else if byHi a.hi b.lo 1073741824 > if byHi a.lo b.hi 1073741824 > if byHi a.lo b.lo 1073741824 > byHi a.lo b.lo 1073741824 then byHi a.lo b.lo 1073741824 else byHi a.lo b.lo 1073741824 then byHi a.lo b.hi 1073741824 else if byHi a.lo b.lo 1073741824 > byHi a.lo b.lo 1073741824 then byHi a.lo b.lo 1073741824 else byHi a.lo b.lo 1073741824 then byHi a.hi b.lo 1073741824 else if byHi a.lo b.hi 1073741824 > if byHi a.lo b.lo 1073741824 > byHi a.lo b.lo 1073741824 then byHi a.lo b.lo 1073741824 else byHi a.lo b.lo 1073741824 then byHi a.lo b.hi 1073741824 else if byHi a.lo b.lo 1073741824 > byHi a.lo b.lo 1073741824 then byHi a.lo b.lo 1073741824 else byHi a.lo b.lo 1073741824, false⟩]],
     (fineL [⟨if byLo a.hi b.hi 1073741824 < if byLo a.hi b.lo 1073741824 < if byLo a.lo b.hi 1073741824 < if byLo a.lo b.lo 1073741824 < byLo a.lo b.lo 1073741824 then byLo a.lo b.lo 1073741824 else byLo a.lo b.lo 1073741824 then byLo a.lo b.hi 1073741824 else if byLo a.lo b.lo 1073741824 < byLo a.lo b.lo 1073741824 then byLo a.lo b.lo 1073741824 else byLo a.lo b.lo 1073741824 then byLo a.hi b.lo 1073741824 else if byLo a.lo b.hi 1073741824 < if byLo a.lo b.lo 1073741824 < byLo a.lo b.lo 1073741824 then byLo a.lo b.lo 1073741824 else byLo a.lo b.lo 1073741824 then byLo a.lo b.hi 1073741824 else if byLo a.lo b.lo 1073741824 < byLo a.lo b.lo 1073741824 then byLo a.lo b.lo 1073741824 else byLo a.lo b.lo 1073741824 then byLo a.hi b.hi 1073741824 else if byLo a.hi b.lo 1073741824 < if byLo a.lo b.hi 1073741824 < if byLo a.lo b.lo 1073741824 < byLo a.lo b.lo 1073741824 then byLo a.lo b.lo 1073741824 else byLo a.lo b.lo 1073741824 then byLo a.lo b.hi 1073741824 else if byLo a.lo b.lo 1073741824 < byLo a.lo b.lo 1073741824 then byLo a.lo b.lo 1073741824 else byLo a.lo b.lo 1073741824 then byLo a.hi b.lo 1073741824 else if byLo a.lo b.hi 1073741824 < if byLo a.lo b.lo 1073741824 < byLo a.lo b.lo 1073741824 then byLo a.lo b.lo 1073741824 else byLo a.lo b.lo 1073741824 then byLo a.lo b.hi 1073741824 else if byLo a.lo b.lo 1073741824 < byLo a.lo b.lo 1073741824 then byLo a.lo b.lo 1073741824 else byLo a.lo b.lo 1073741824, if byHi a.hi b.hi 1073741824 > if byHi a.hi b.lo 1073741824 > if byHi a.lo b.hi 1073741824 > if byHi a.lo b.lo 1073741824 > byHi a.lo b.lo 1073741824 then byHi a.lo b.lo 1073741824 else byHi a.lo b.lo 1073741824 then byHi a.lo b.hi 1073741824 else if byHi a.lo b.lo 1073741824 > byHi a.lo b.lo 1073741824 then byHi a.lo b.lo 1073741824 else byHi a.lo b.lo 1073741824 then byHi a.hi b.lo 1073741824 else if byHi a.lo b.hi 1073741824 > if byHi a.lo b.lo 1073741824 > byHi a.lo b.lo 1073741824 then byHi a.lo b.lo 1073741824 else byHi a.lo b.lo 1073741824 then byHi a.lo b.hi 1073741824 else if byHi a.lo b.lo 1073741824 > byHi a.lo b.lo 1073741824 then byHi a.lo b.lo 1073741824 else byHi a.lo b.lo 1073741824 then byHi a.hi b.hi 1073741824 else if byHi a.hi b.lo 1073741824 > if byHi a.lo b.hi 1073741824 > if byHi a.lo b.lo 1073741824 > byHi a.lo b.lo 1073741824 then byHi a.lo b.lo 1073741824 else byHi a.lo b.lo 1073741824 then byHi a.lo b.hi 1073741824 else if byHi a.lo b.lo 1073741824 > byHi a.lo b.lo 1073741824 then byHi a.lo b.lo 1073741824 else byHi a.lo b.lo 1073741824 then byHi a.hi b.lo 1073741824 else if byHi a.lo b.hi 1073741824 > if byHi a.lo b.lo 1073741824 > byHi a.lo b.lo 1073741824 then byHi a.lo b.lo 1073741824 else byHi a.lo b.lo 1073741824 then byHi a.lo b.hi 1073741824 else if byHi a.lo b.lo 1073741824 > byHi a.lo b.lo 1073741824 then byHi a.lo b.lo 1073741824 else byHi a.lo b.lo 1073741824, false⟩]) = true]) := by kernel_rfl
theorem mult_leaf (a b : Iv) (hf : fineL [a, b] = true) (q0 : byOk a.lo b.lo 1073741824 = true) (q1 : byOk a.lo b.hi 1073741824 = true) (q2 : byOk a.hi b.lo 1073741824 = true) (q3 : byOk a.hi b.hi 1073741824 = true) (hg : fineL [mulR a b] = true) : Gives P 16 #[I a, I b] (I (mulI a b)) := by
  have h := fine2.1 hf
  obtain ⟨w1, w2⟩ := fine_wr h.1
  obtain ⟨w3, w4⟩ := fine_wr h.2
  have R := mult_run a b
  refine gives_of_run mo R (ps_cons (ivs_ok (by simp)) (ps_cons (neg_f hf) (ps_cons ⟨w1, w3, i64one⟩ (ps_cons (neg_f q0) (ps_cons ⟨w1, w4, i64one⟩ (ps_cons q0 (ps_cons (neg_f q1) (ps_cons ⟨w2, w3, i64one⟩ (ps_cons q1 (ps_cons (neg_f q2) (ps_cons ⟨w2, w4, i64one⟩ (ps_cons q2 (ps_cons (neg_f q3) (ps_cons q3 (ps_cons (ivs_ok (by simp)) (ps_cons hg ps_nil)))))))))))))))) ?_
  unfold mulI
  rw [hf, q0, q1, q2, q3, told_ok (fine1 ▸ hg)]
  rfl
theorem muln_run (a b : Iv) : runF P J1 6 16 [I a, I b] (.lit :: (.b false :: (lits 6 (.b false :: (lits 4 (.b true :: (.b false :: (lits 4 (.b true :: (.b false :: (lits 4 (.b true :: (.b false :: (.lit :: (.lit :: (.lit :: (.b true :: (.lit :: (.b false :: []))))))))))))))))))) =
  some (I (⟨0, 0, true⟩),
    [fineP [ivs [a, b]],
     (!(fineL [a, b])) = false,
     byP [.int .i64 a.lo, .int .i64 b.lo, .int .i64 1073741824],
     (!(byOk a.lo b.lo 1073741824)) = false,
     byP [.int .i64 a.lo, .int .i64 b.hi, .int .i64 1073741824],
     (byOk a.lo b.lo 1073741824) = true,
     (!(byOk a.lo b.hi 1073741824)) = false,
     byP [.int .i64 a.hi, .int .i64 b.lo, .int .i64 1073741824],
     (byOk a.lo b.hi 1073741824) = true,
     (!(byOk a.hi b.lo 1073741824)) = false,
     byP [.int .i64 a.hi, .int .i64 b.hi, .int .i64 1073741824],
     (byOk a.hi b.lo 1073741824) = true,
     (!(byOk a.hi b.hi 1073741824)) = false,
     (byOk a.hi b.hi 1073741824) = true,
     fineP [ivs [⟨if byLo a.hi b.hi 1073741824 < if byLo a.hi b.lo 1073741824 < if byLo a.lo b.hi 1073741824 < if byLo a.lo b.lo 1073741824 < byLo a.lo b.lo 1073741824 then byLo a.lo b.lo 1073741824 else byLo a.lo b.lo 1073741824 then byLo a.lo b.hi 1073741824 else if byLo a.lo b.lo 1073741824 < byLo a.lo b.lo 1073741824 then byLo a.lo b.lo 1073741824 else byLo a.lo b.lo 1073741824 then byLo a.hi b.lo 1073741824 else if byLo a.lo b.hi 1073741824 < if byLo a.lo b.lo 1073741824 < byLo a.lo b.lo 1073741824 then byLo a.lo b.lo 1073741824 else byLo a.lo b.lo 1073741824 then byLo a.lo b.hi 1073741824 else if byLo a.lo b.lo 1073741824 < byLo a.lo b.lo 1073741824 then byLo a.lo b.lo 1073741824 else byLo a.lo b.lo 1073741824 then byLo a.hi b.hi 1073741824 else if byLo a.hi b.lo 1073741824 < if byLo a.lo b.hi 1073741824 < if byLo a.lo b.lo 1073741824 < byLo a.lo b.lo 1073741824 then byLo a.lo b.lo 1073741824 else byLo a.lo b.lo 1073741824 then byLo a.lo b.hi 1073741824 else if byLo a.lo b.lo 1073741824 < byLo a.lo b.lo 1073741824 then byLo a.lo b.lo 1073741824 else byLo a.lo b.lo 1073741824 then byLo a.hi b.lo 1073741824 else if byLo a.lo b.hi 1073741824 < if byLo a.lo b.lo 1073741824 < byLo a.lo b.lo 1073741824 then byLo a.lo b.lo 1073741824 else byLo a.lo b.lo 1073741824 then byLo a.lo b.hi 1073741824 else if byLo a.lo b.lo 1073741824 < byLo a.lo b.lo 1073741824 then byLo a.lo b.lo 1073741824 else byLo a.lo b.lo 1073741824, if byHi a.hi b.hi 1073741824 > if byHi a.hi b.lo 1073741824 > if byHi a.lo b.hi 1073741824 > if byHi a.lo b.lo 1073741824 > byHi a.lo b.lo 1073741824 then byHi a.lo b.lo 1073741824 else byHi a.lo b.lo 1073741824 then byHi a.lo b.hi 1073741824 else if byHi a.lo b.lo 1073741824 > byHi a.lo b.lo 1073741824 then byHi a.lo b.lo 1073741824 else byHi a.lo b.lo 1073741824 then byHi a.hi b.lo 1073741824 else if byHi a.lo b.hi 1073741824 > if byHi a.lo b.lo 1073741824 > byHi a.lo b.lo 1073741824 then byHi a.lo b.lo 1073741824 else byHi a.lo b.lo 1073741824 then byHi a.lo b.hi 1073741824 else if byHi a.lo b.lo 1073741824 > byHi a.lo b.lo 1073741824 then byHi a.lo b.lo 1073741824 else byHi a.lo b.lo 1073741824 then byHi a.hi b.hi 1073741824 else if byHi a.hi b.lo 1073741824 > if byHi a.lo b.hi 1073741824 > if byHi a.lo b.lo 1073741824 > byHi a.lo b.lo 1073741824 then byHi a.lo b.lo 1073741824 else byHi a.lo b.lo 1073741824 then byHi a.lo b.hi 1073741824 else if byHi a.lo b.lo 1073741824 > byHi a.lo b.lo 1073741824 then byHi a.lo b.lo 1073741824 else byHi a.lo b.lo 1073741824 then byHi a.hi b.lo 1073741824 else if byHi a.lo b.hi 1073741824 > if byHi a.lo b.lo 1073741824 > byHi a.lo b.lo 1073741824 then byHi a.lo b.lo 1073741824 else byHi a.lo b.lo 1073741824 then byHi a.lo b.hi 1073741824 else if byHi a.lo b.lo 1073741824 > byHi a.lo b.lo 1073741824 then byHi a.lo b.lo 1073741824 else byHi a.lo b.lo 1073741824, false⟩]],
     (fineL [⟨if byLo a.hi b.hi 1073741824 < if byLo a.hi b.lo 1073741824 < if byLo a.lo b.hi 1073741824 < if byLo a.lo b.lo 1073741824 < byLo a.lo b.lo 1073741824 then byLo a.lo b.lo 1073741824 else byLo a.lo b.lo 1073741824 then byLo a.lo b.hi 1073741824 else if byLo a.lo b.lo 1073741824 < byLo a.lo b.lo 1073741824 then byLo a.lo b.lo 1073741824 else byLo a.lo b.lo 1073741824 then byLo a.hi b.lo 1073741824 else if byLo a.lo b.hi 1073741824 < if byLo a.lo b.lo 1073741824 < byLo a.lo b.lo 1073741824 then byLo a.lo b.lo 1073741824 else byLo a.lo b.lo 1073741824 then byLo a.lo b.hi 1073741824 else if byLo a.lo b.lo 1073741824 < byLo a.lo b.lo 1073741824 then byLo a.lo b.lo 1073741824 else byLo a.lo b.lo 1073741824 then byLo a.hi b.hi 1073741824 else if byLo a.hi b.lo 1073741824 < if byLo a.lo b.hi 1073741824 < if byLo a.lo b.lo 1073741824 < byLo a.lo b.lo 1073741824 then byLo a.lo b.lo 1073741824 else byLo a.lo b.lo 1073741824 then byLo a.lo b.hi 1073741824 else if byLo a.lo b.lo 1073741824 < byLo a.lo b.lo 1073741824 then byLo a.lo b.lo 1073741824 else byLo a.lo b.lo 1073741824 then byLo a.hi b.lo 1073741824 else if byLo a.lo b.hi 1073741824 < if byLo a.lo b.lo 1073741824 < byLo a.lo b.lo 1073741824 then byLo a.lo b.lo 1073741824 else byLo a.lo b.lo 1073741824 then byLo a.lo b.hi 1073741824 else if byLo a.lo b.lo 1073741824 < byLo a.lo b.lo 1073741824 then byLo a.lo b.lo 1073741824 else byLo a.lo b.lo 1073741824, if byHi a.hi b.hi 1073741824 > if byHi a.hi b.lo 1073741824 > if byHi a.lo b.hi 1073741824 > if byHi a.lo b.lo 1073741824 > byHi a.lo b.lo 1073741824 then byHi a.lo b.lo 1073741824 else byHi a.lo b.lo 1073741824 then byHi a.lo b.hi 1073741824 else if byHi a.lo b.lo 1073741824 > byHi a.lo b.lo 1073741824 then byHi a.lo b.lo 1073741824 else byHi a.lo b.lo 1073741824 then byHi a.hi b.lo 1073741824 else if byHi a.lo b.hi 1073741824 > if byHi a.lo b.lo 1073741824 > byHi a.lo b.lo 1073741824 then byHi a.lo b.lo 1073741824 else byHi a.lo b.lo 1073741824 then byHi a.lo b.hi 1073741824 else if byHi a.lo b.lo 1073741824 > byHi a.lo b.lo 1073741824 then byHi a.lo b.lo 1073741824 else byHi a.lo b.lo 1073741824 then byHi a.hi b.hi 1073741824 else if byHi a.hi b.lo 1073741824 > if byHi a.lo b.hi 1073741824 > if byHi a.lo b.lo 1073741824 > byHi a.lo b.lo 1073741824 then byHi a.lo b.lo 1073741824 else byHi a.lo b.lo 1073741824 then byHi a.lo b.hi 1073741824 else if byHi a.lo b.lo 1073741824 > byHi a.lo b.lo 1073741824 then byHi a.lo b.lo 1073741824 else byHi a.lo b.lo 1073741824 then byHi a.hi b.lo 1073741824 else if byHi a.lo b.hi 1073741824 > if byHi a.lo b.lo 1073741824 > byHi a.lo b.lo 1073741824 then byHi a.lo b.lo 1073741824 else byHi a.lo b.lo 1073741824 then byHi a.lo b.hi 1073741824 else if byHi a.lo b.lo 1073741824 > byHi a.lo b.lo 1073741824 then byHi a.lo b.lo 1073741824 else byHi a.lo b.lo 1073741824, false⟩]) = false]) := by kernel_rfl
theorem muln_leaf (a b : Iv) (hf : fineL [a, b] = true) (q0 : byOk a.lo b.lo 1073741824 = true) (q1 : byOk a.lo b.hi 1073741824 = true) (q2 : byOk a.hi b.lo 1073741824 = true) (q3 : byOk a.hi b.hi 1073741824 = true) (hg : fineL [mulR a b] = false) : Gives P 16 #[I a, I b] (I (mulI a b)) := by
  have h := fine2.1 hf
  obtain ⟨w1, w2⟩ := fine_wr h.1
  obtain ⟨w3, w4⟩ := fine_wr h.2
  have R := muln_run a b
  refine gives_of_run mo R (ps_cons (ivs_ok (by simp)) (ps_cons (neg_f hf) (ps_cons ⟨w1, w3, i64one⟩ (ps_cons (neg_f q0) (ps_cons ⟨w1, w4, i64one⟩ (ps_cons q0 (ps_cons (neg_f q1) (ps_cons ⟨w2, w3, i64one⟩ (ps_cons q1 (ps_cons (neg_f q2) (ps_cons ⟨w2, w4, i64one⟩ (ps_cons q2 (ps_cons (neg_f q3) (ps_cons q3 (ps_cons (ivs_ok (by simp)) (ps_cons hg ps_nil)))))))))))))))) ?_
  unfold mulI
  rw [hf, q0, q1, q2, q3, told_no (fine1 ▸ hg)]
  rfl
theorem mul_gives (args : List Value) (h : iP2 args) : Gives P 16 args.toArray ((two2 fun a b => I (mulI a b)) args) := by
  unfold iP2 at h
  split at h
  · obtain ⟨⟨a, rfl⟩, b, rfl⟩ := h
    cases hf : fineL [a, b] with
    | false => exact mul0_leaf a b hf
    | true =>
    cases q0 : byOk a.lo b.lo 1073741824 with
      | false => exact mulf0_leaf a b hf q0
      | true =>
    cases q1 : byOk a.lo b.hi 1073741824 with
      | false => exact mulf1_leaf a b hf q0 q1
      | true =>
    cases q2 : byOk a.hi b.lo 1073741824 with
      | false => exact mulf2_leaf a b hf q0 q1 q2
      | true =>
    cases q3 : byOk a.hi b.hi 1073741824 with
      | false => exact mulf3_leaf a b hf q0 q1 q2 q3
      | true =>
    cases hg : fineL [mulR a b] with
      | true => exact mult_leaf a b hf q0 q1 q2 q3 hg
      | false => exact muln_leaf a b hf q0 q1 q2 q3 hg
  · exact h.elim
noncomputable def cMul : Ctr P := ⟨16, iP2, two2 fun a b => I (mulI a b), mul_gives⟩
theorem part0_run (a : Iv) (n d : Int) : runF P J1 3 17 [I a, .int .i64 n, .int .i64 d] (.lit :: (.b true :: [])) =
  some (I (⟨0, 0, true⟩),
    [fineP [ivs [a]],
     (!(fineL [a])) = true]) := by kernel_rfl
theorem part0_leaf (a : Iv) (n d : Int) (_hn : I64 n) (_hd : I64 d) (hf : fineL [a] = false) : Gives P 17 #[I a, .int .i64 n, .int .i64 d] (I (partI a n d)) := by
  have R := part0_run a n d
  refine gives_of_run mo R (ps_cons (ivs_ok (by simp)) (ps_cons (neg_t hf) ps_nil)) ?_
  unfold partI
  rw [hf]
  rfl
theorem partf0_run (a : Iv) (n d : Int) : runF P J1 5 17 [I a, .int .i64 n, .int .i64 d] (.lit :: (.b false :: (lits 6 (.b true :: (.lit :: (.b false :: [])))))) =
  some (I (⟨0, 0, true⟩),
    [fineP [ivs [a]],
     (!(fineL [a])) = false,
     byP [.int .i64 a.lo, .int .i64 n, .int .i64 d],
     (!(byOk a.lo n d)) = true,
     (byOk a.lo n d) = false]) := by kernel_rfl
theorem partf0_leaf (a : Iv) (n d : Int) (hn : I64 n) (hd : I64 d) (hf : fineL [a] = true) (q0 : byOk a.lo n d = false) : Gives P 17 #[I a, .int .i64 n, .int .i64 d] (I (partI a n d)) := by
  have w := fine_wr (fine1 ▸ hf)
  obtain ⟨w1, w2⟩ := w
  have R := partf0_run a n d
  refine gives_of_run mo R (ps_cons (ivs_ok (by simp)) (ps_cons (neg_f hf) (ps_cons ⟨w1, hn, hd⟩ (ps_cons (neg_t q0) (ps_cons q0 ps_nil))))) ?_
  unfold partI
  rw [hf, q0]
  rfl
theorem partf1_run (a : Iv) (n d : Int) : runF P J1 6 17 [I a, .int .i64 n, .int .i64 d] (.lit :: (.b false :: (lits 6 (.b false :: (lits 4 (.b true :: (.b true :: (.lit :: (.b false :: []))))))))) =
  some (I (⟨0, 0, true⟩),
    [fineP [ivs [a]],
     (!(fineL [a])) = false,
     byP [.int .i64 a.lo, .int .i64 n, .int .i64 d],
     (!(byOk a.lo n d)) = false,
     byP [.int .i64 a.hi, .int .i64 n, .int .i64 d],
     (byOk a.lo n d) = true,
     (!(byOk a.hi n d)) = true,
     (byOk a.hi n d) = false]) := by kernel_rfl
theorem partf1_leaf (a : Iv) (n d : Int) (hn : I64 n) (hd : I64 d) (hf : fineL [a] = true) (q0 : byOk a.lo n d = true) (q1 : byOk a.hi n d = false) : Gives P 17 #[I a, .int .i64 n, .int .i64 d] (I (partI a n d)) := by
  have w := fine_wr (fine1 ▸ hf)
  obtain ⟨w1, w2⟩ := w
  have R := partf1_run a n d
  refine gives_of_run mo R (ps_cons (ivs_ok (by simp)) (ps_cons (neg_f hf) (ps_cons ⟨w1, hn, hd⟩ (ps_cons (neg_f q0) (ps_cons ⟨w2, hn, hd⟩ (ps_cons q0 (ps_cons (neg_t q1) (ps_cons q1 ps_nil)))))))) ?_
  unfold partI
  rw [hf, q0, q1]
  rfl
theorem partt_run (a : Iv) (n d : Int) : runF P J1 6 17 [I a, .int .i64 n, .int .i64 d] (.lit :: (.b false :: (lits 6 (.b false :: (lits 4 (.b true :: (.b false :: (.lit :: (.lit :: (.lit :: (.b true :: (.lit :: (.b true :: []))))))))))))) =
  some (I (⟨if byLo a.hi n d < if byLo a.lo n d < byLo a.lo n d then byLo a.lo n d else byLo a.lo n d then byLo a.hi n d else if byLo a.lo n d < byLo a.lo n d then byLo a.lo n d else byLo a.lo n d, if byHi a.hi n d > if byHi a.lo n d > byHi a.lo n d then byHi a.lo n d else byHi a.lo n d then byHi a.hi n d else if byHi a.lo n d > byHi a.lo n d then byHi a.lo n d else byHi a.lo n d, false⟩),
    [fineP [ivs [a]],
     (!(fineL [a])) = false,
     byP [.int .i64 a.lo, .int .i64 n, .int .i64 d],
     (!(byOk a.lo n d)) = false,
     byP [.int .i64 a.hi, .int .i64 n, .int .i64 d],
     (byOk a.lo n d) = true,
     (!(byOk a.hi n d)) = false,
     (byOk a.hi n d) = true,
     fineP [ivs [⟨if byLo a.hi n d < if byLo a.lo n d < byLo a.lo n d then byLo a.lo n d else byLo a.lo n d then byLo a.hi n d else if byLo a.lo n d < byLo a.lo n d then byLo a.lo n d else byLo a.lo n d, if byHi a.hi n d > if byHi a.lo n d > byHi a.lo n d then byHi a.lo n d else byHi a.lo n d then byHi a.hi n d else if byHi a.lo n d > byHi a.lo n d then byHi a.lo n d else byHi a.lo n d, false⟩]],
     (fineL [⟨if byLo a.hi n d < if byLo a.lo n d < byLo a.lo n d then byLo a.lo n d else byLo a.lo n d then byLo a.hi n d else if byLo a.lo n d < byLo a.lo n d then byLo a.lo n d else byLo a.lo n d, if byHi a.hi n d > if byHi a.lo n d > byHi a.lo n d then byHi a.lo n d else byHi a.lo n d then byHi a.hi n d else if byHi a.lo n d > byHi a.lo n d then byHi a.lo n d else byHi a.lo n d, false⟩]) = true]) := by kernel_rfl
theorem partt_leaf (a : Iv) (n d : Int) (hn : I64 n) (hd : I64 d) (hf : fineL [a] = true) (q0 : byOk a.lo n d = true) (q1 : byOk a.hi n d = true) (hg : fineL [partR a n d] = true) : Gives P 17 #[I a, .int .i64 n, .int .i64 d] (I (partI a n d)) := by
  have w := fine_wr (fine1 ▸ hf)
  obtain ⟨w1, w2⟩ := w
  have R := partt_run a n d
  refine gives_of_run mo R (ps_cons (ivs_ok (by simp)) (ps_cons (neg_f hf) (ps_cons ⟨w1, hn, hd⟩ (ps_cons (neg_f q0) (ps_cons ⟨w2, hn, hd⟩ (ps_cons q0 (ps_cons (neg_f q1) (ps_cons q1 (ps_cons (ivs_ok (by simp)) (ps_cons hg ps_nil)))))))))) ?_
  unfold partI
  rw [hf, q0, q1, told_ok (fine1 ▸ hg)]
  rfl
theorem partn_run (a : Iv) (n d : Int) : runF P J1 6 17 [I a, .int .i64 n, .int .i64 d] (.lit :: (.b false :: (lits 6 (.b false :: (lits 4 (.b true :: (.b false :: (.lit :: (.lit :: (.lit :: (.b true :: (.lit :: (.b false :: []))))))))))))) =
  some (I (⟨0, 0, true⟩),
    [fineP [ivs [a]],
     (!(fineL [a])) = false,
     byP [.int .i64 a.lo, .int .i64 n, .int .i64 d],
     (!(byOk a.lo n d)) = false,
     byP [.int .i64 a.hi, .int .i64 n, .int .i64 d],
     (byOk a.lo n d) = true,
     (!(byOk a.hi n d)) = false,
     (byOk a.hi n d) = true,
     fineP [ivs [⟨if byLo a.hi n d < if byLo a.lo n d < byLo a.lo n d then byLo a.lo n d else byLo a.lo n d then byLo a.hi n d else if byLo a.lo n d < byLo a.lo n d then byLo a.lo n d else byLo a.lo n d, if byHi a.hi n d > if byHi a.lo n d > byHi a.lo n d then byHi a.lo n d else byHi a.lo n d then byHi a.hi n d else if byHi a.lo n d > byHi a.lo n d then byHi a.lo n d else byHi a.lo n d, false⟩]],
     (fineL [⟨if byLo a.hi n d < if byLo a.lo n d < byLo a.lo n d then byLo a.lo n d else byLo a.lo n d then byLo a.hi n d else if byLo a.lo n d < byLo a.lo n d then byLo a.lo n d else byLo a.lo n d, if byHi a.hi n d > if byHi a.lo n d > byHi a.lo n d then byHi a.lo n d else byHi a.lo n d then byHi a.hi n d else if byHi a.lo n d > byHi a.lo n d then byHi a.lo n d else byHi a.lo n d, false⟩]) = false]) := by kernel_rfl
theorem partn_leaf (a : Iv) (n d : Int) (hn : I64 n) (hd : I64 d) (hf : fineL [a] = true) (q0 : byOk a.lo n d = true) (q1 : byOk a.hi n d = true) (hg : fineL [partR a n d] = false) : Gives P 17 #[I a, .int .i64 n, .int .i64 d] (I (partI a n d)) := by
  have w := fine_wr (fine1 ▸ hf)
  obtain ⟨w1, w2⟩ := w
  have R := partn_run a n d
  refine gives_of_run mo R (ps_cons (ivs_ok (by simp)) (ps_cons (neg_f hf) (ps_cons ⟨w1, hn, hd⟩ (ps_cons (neg_f q0) (ps_cons ⟨w2, hn, hd⟩ (ps_cons q0 (ps_cons (neg_f q1) (ps_cons q1 (ps_cons (ivs_ok (by simp)) (ps_cons hg ps_nil)))))))))) ?_
  unfold partI
  rw [hf, q0, q1, told_no (fine1 ▸ hg)]
  rfl
theorem part_gives (args : List Value) (h : partP args) : Gives P 17 args.toArray ((partV) args) := by
  unfold partP at h
  split at h
  · rename_i n d
    obtain ⟨⟨a, rfl⟩, hn, hd⟩ := h
    cases hf : fineL [a] with
    | false => exact part0_leaf a n d hn hd hf
    | true =>
    cases q0 : byOk a.lo n d with
      | false => exact partf0_leaf a n d hn hd hf q0
      | true =>
    cases q1 : byOk a.hi n d with
      | false => exact partf1_leaf a n d hn hd hf q0 q1
      | true =>
    cases hg : fineL [partR a n d] with
      | true => exact partt_leaf a n d hn hd hf q0 q1 hg
      | false => exact partn_leaf a n d hn hd hf q0 q1 hg
  · exact h.elim
noncomputable def cPart : Ctr P := ⟨17, partP, partV, part_gives⟩
end Go.Iv
