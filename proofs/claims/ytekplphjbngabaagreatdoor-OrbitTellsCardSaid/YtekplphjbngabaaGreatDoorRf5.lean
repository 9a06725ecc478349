/-
 Contracts of gyreref05: all but slices of intervals. Printed by rf5.py.
-/
import Derived.Test.YtekplphjbngabaaGreatDoorIvb
import Derived.Test.YtekplphjbngabaaGreatDoorIva
import Derived.Test.YtekplphjbngabaaGreatDoorRfc
set_option maxRecDepth 100000
namespace Go.R5
open Go Go.RowKit Go.Sx Go.Nm Go.Wd Go.Qt Go.Iv Go.Proofs
noncomputable def U0 : Env P := ⟨⟨[], [rFine]⟩, [], 10, []⟩
def told5P : List Value → Prop
 | [x, .bool _] => ∃ a, x = I a
 | _ => False
def told5V : List Value → Value
 | [x, .bool b] => I (bif b then told (rd x) else bd)
 | _ => undef
theorem told0_leaf (a : Iv) (b : Bool)  (q0 : (b) = true) (q1 : (fineL [a]) = true) : Gives P 60 #[I a, .bool b] (I (bif b then told a else bd)) := by
 refine gives_of_run (E := U0) (lv := 1) (ds := (.b false :: (.lit :: (.b false :: [])))) (v := I a) (ps := [(!b) = false, fineP [ivs [a]], (!(fineL [a])) = false]) mo (by kernel_rfl) (ps_cons (neg_f q0) (ps_cons (ivs_ok (by simp)) (ps_cons (neg_f q1) ps_nil))) ?_
 rw [q0, cond_true, told_ok (fine1 ▸ q1)]
theorem told1_leaf (a : Iv) (b : Bool)  (q0 : (b) = false) : Gives P 60 #[I a, .bool b] (I (bif b then told a else bd)) := by
 refine gives_of_run (E := U0) (lv := 2) (ds := (.b true :: [])) (v := I (⟨0, 0, true⟩)) (ps := [(!b) = true]) mo (by kernel_rfl) (ps_cons (neg_t q0) ps_nil) ?_
 rw [q0]
 rfl
theorem told2_leaf (a : Iv) (b : Bool)  (q0 : (b) = true) (q1 : (fineL [a]) = false) : Gives P 60 #[I a, .bool b] (I (bif b then told a else bd)) := by
 refine gives_of_run (E := U0) (lv := 2) (ds := (.b false :: (.lit :: (.b true :: [])))) (v := I (⟨0, 0, true⟩)) (ps := [(!b) = false, fineP [ivs [a]], (!(fineL [a])) = true]) mo (by kernel_rfl) (ps_cons (neg_f q0) (ps_cons (ivs_ok (by simp)) (ps_cons (neg_t q1) ps_nil))) ?_
 rw [q0, cond_true, told_no (fine1 ▸ q1)]
 rfl
theorem told_gives (args : List Value) (h : told5P args) : Gives P 60 args.toArray ((told5V) args) := by
 unfold told5P at h
 split at h
 · rename_i b
   obtain ⟨a, rfl⟩ := h
   show Gives P _ #[I a, .bool b] (I (bif b then told a else bd))
   rcases Bool.eq_false_or_eq_true (b) with q0 | q0
   · cases q1 : (fineL [a]) with
     | true =>
      exact told0_leaf a b  q0 q1
     | false =>
      exact told2_leaf a b  q0 q1
   · exact told1_leaf a b  q0
 · exact h.elim
noncomputable def cTold : Ctr P := ⟨60, told5P, told5V, told_gives⟩
noncomputable def U1 : Env P := ⟨⟨[cTold], [rFine]⟩, [], 10, []⟩
theorem pt0_leaf (n : Int)   : Gives P 30 #[.int .i64 n] (I (pointI n)) := by
 refine gives_of_run (E := U1) (lv := 1) (ds := []) (v := I (bif true then told (⟨n, n, false⟩) else bd)) (ps := [told5P [I (⟨n, n, false⟩), .bool true]]) mo (by kernel_rfl) (ps_cons ⟨_, rfl⟩ ps_nil) ?_
 rfl
theorem pt_gives (args : List Value) (h : nP1 args) : Gives P 30 args.toArray ((n1V fun n => I (pointI n)) args) := by
 unfold nP1 at h
 split at h
 · rename_i n
   show Gives P _ #[.int .i64 n] (I (pointI n))
   exact pt0_leaf n  
 · exact h.elim
noncomputable def cPoint : Ctr P := ⟨30, nP1, n1V fun n => I (pointI n), pt_gives⟩
noncomputable def U2 : Env P := ⟨⟨[cTold, cPoint], [rFine]⟩, [], 10, []⟩
theorem of_no {n : Int} (h : n > 1073741824 ∨ n < -1073741824) : ofI n = bd := by
 unfold ofI
 have : (decide (-1073741824 ≤ n) && decide (n ≤ 1073741824)) = false := by
  rw [← Bool.not_eq_true]; simp only [Bool.and_eq_true, decide_eq_true_eq]; omega
 rw [this]; rfl
theorem of_yes {n : Int} (h : ¬ n > 1073741824) (h2 : ¬ n < -1073741824) : IntKind.i64.wrap (n * 1073741824) = n * 1073741824 ∧ pointI (n * 1073741824) = ofI n ∧ I64 (n * 1073741824) := by
 refine ⟨wr (by omega) (by omega), ?_, by unfold I64; omega⟩
 unfold ofI pointI
 have : (decide (-1073741824 ≤ n) && decide (n ≤ 1073741824)) = true := by
  simp only [Bool.and_eq_true, decide_eq_true_eq]; omega
 rw [this]
 exact told_ok (fine_iff.2 ⟨rfl, by simp only; omega, Int.le_refl _, by simp only; omega⟩)
theorem of0_leaf (n : Int)  (q0 : (decide (n > 1073741824)) = true) : Gives P 17 #[.int .i64 n] (I (ofI n)) := by
 refine gives_of_run (E := U2) (lv := 2) (ds := (.b true :: [])) (v := I (⟨0, 0, true⟩)) (ps := [(decide (n > 1073741824)) = true]) mo (by kernel_rfl) (ps_cons q0 ps_nil) ?_
 rw [of_no (.inl (of_decide_eq_true q0))]
 rfl
theorem of1_leaf (n : Int)  (q0 : (decide (n > 1073741824)) = false) (q1 : (decide (n < -1073741824)) = true) : Gives P 17 #[.int .i64 n] (I (ofI n)) := by
 refine gives_of_run (E := U2) (lv := 2) (ds := (.b false :: (.b true :: []))) (v := I (⟨0, 0, true⟩)) (ps := [(decide (n > 1073741824)) = false, (decide (n < -1073741824)) = true]) mo (by kernel_rfl) (ps_cons q0 (ps_cons q1 ps_nil)) ?_
 rw [of_no (.inr (of_decide_eq_true q1))]
 rfl
theorem of2_leaf (n : Int)  (q0 : (decide (n > 1073741824)) = false) (q1 : (decide (n < -1073741824)) = false) : Gives P 17 #[.int .i64 n] (I (ofI n)) := by
 refine gives_of_run (E := U2) (lv := 1) (ds := (.b false :: (.b false :: []))) (v := I (pointI (IntKind.i64.wrap (n * 1073741824)))) (ps := [(decide (n > 1073741824)) = false, (decide (n < -1073741824)) = false, nP1 [.int .i64 (IntKind.i64.wrap (n * 1073741824))]]) mo (by kernel_rfl) (ps_cons q0 (ps_cons q1 (ps_cons (by obtain ⟨h1, h2, h3⟩ := of_yes (of_decide_eq_false q0) (of_decide_eq_false q1); rw [h1]; exact h3) ps_nil))) ?_
 obtain ⟨h1, h2, h3⟩ := of_yes (of_decide_eq_false q0) (of_decide_eq_false q1)
 rw [h1, h2]
theorem of_gives (args : List Value) (h : nP1 args) : Gives P 17 args.toArray ((n1V fun n => I (ofI n)) args) := by
 unfold nP1 at h
 split at h
 · rename_i n
   show Gives P _ #[.int .i64 n] (I (ofI n))
   cases q0 : (decide (n > 1073741824)) with
   | true =>
    exact of0_leaf n  q0
   | false =>
    cases q1 : (decide (n < -1073741824)) with
    | true =>
     exact of1_leaf n  q0 q1
    | false =>
     exact of2_leaf n  q0 q1
 · exact h.elim
noncomputable def cOf : Ctr P := ⟨17, nP1, n1V fun n => I (ofI n), of_gives⟩
theorem mk0_leaf (n m : Int)   : Gives P 111 #[.int .i64 n, .int .i64 m] (I (makeI n m)) := by
 refine gives_of_run (E := U1) (lv := 1) (ds := []) (v := I (bif true then told (⟨mn n m, mx n m, false⟩) else bd)) (ps := [told5P [I (⟨mn n m, mx n m, false⟩), .bool true]]) mo (by kernel_rfl) (ps_cons ⟨_, rfl⟩ ps_nil) ?_
 rfl
theorem mk_gives (args : List Value) (h : nP2 args) : Gives P 111 args.toArray ((n2V fun n m => I (makeI n m)) args) := by
 unfold nP2 at h
 split at h
 · rename_i n m
   show Gives P _ #[.int .i64 n, .int .i64 m] (I (makeI n m))
   exact mk0_leaf n m  
 · exact h.elim
noncomputable def cMake : Ctr P := ⟨111, nP2, n2V fun n m => I (makeI n m), mk_gives⟩
theorem add0_leaf (a b : Iv)   : Gives P 115 #[I a, I b] (I (addI a b)) := by
 refine gives_of_run (E := U1) (lv := 1) (ds := []) (v := I (bif (fineL [a, b]) then told (⟨IntKind.i64.wrap (a.lo + b.lo), IntKind.i64.wrap (a.hi + b.hi), false⟩) else bd)) (ps := [fineP [ivs [a, b]], told5P [I (⟨IntKind.i64.wrap (a.lo + b.lo), IntKind.i64.wrap (a.hi + b.hi), false⟩), .bool (fineL [a, b])]]) mo (by kernel_rfl) (ps_cons (ivs_ok (by simp)) (ps_cons ⟨_, rfl⟩ ps_nil)) ?_
 unfold addI
 cases hf : fineL [a, b] with
 | false => rfl
 | true =>
  have h := fine2.1 hf
  have := fine_iff.1 h.1
  have := fine_iff.1 h.2
  rw [wr (by omega) (by omega), wr (by omega) (by omega)]
theorem add_gives (args : List Value) (h : iP2 args) : Gives P 115 args.toArray ((two2 fun a b => I (addI a b)) args) := by
 unfold iP2 at h
 split at h
 · obtain ⟨⟨a, rfl⟩, b, rfl⟩ := h
   show Gives P _ #[I a, I b] (I (addI a b))
   exact add0_leaf a b  
 · exact h.elim
noncomputable def cAdd : Ctr P := ⟨115, iP2, two2 fun a b => I (addI a b), add_gives⟩
theorem sub0_leaf (a b : Iv)   : Gives P 28 #[I a, I b] (I (subI a b)) := by
 refine gives_of_run (E := U1) (lv := 1) (ds := []) (v := I (bif (fineL [a, b]) then told (⟨IntKind.i64.wrap (a.lo - b.hi), IntKind.i64.wrap (a.hi - b.lo), false⟩) else bd)) (ps := [fineP [ivs [a, b]], told5P [I (⟨IntKind.i64.wrap (a.lo - b.hi), IntKind.i64.wrap (a.hi - b.lo), false⟩), .bool (fineL [a, b])]]) mo (by kernel_rfl) (ps_cons (ivs_ok (by simp)) (ps_cons ⟨_, rfl⟩ ps_nil)) ?_
 unfold subI
 cases hf : fineL [a, b] with
 | false => rfl
 | true =>
  have h := fine2.1 hf
  have := fine_iff.1 h.1
  have := fine_iff.1 h.2
  rw [wr (by omega) (by omega), wr (by omega) (by omega)]
theorem sub_gives (args : List Value) (h : iP2 args) : Gives P 28 args.toArray ((two2 fun a b => I (subI a b)) args) := by
 unfold iP2 at h
 split at h
 · obtain ⟨⟨a, rfl⟩, b, rfl⟩ := h
   show Gives P _ #[I a, I b] (I (subI a b))
   exact sub0_leaf a b  
 · exact h.elim
noncomputable def cSub : Ctr P := ⟨28, iP2, two2 fun a b => I (subI a b), sub_gives⟩
theorem meet0_leaf (a b : Iv)   : Gives P 114 #[I a, I b] (I (meetI a b)) := by
 refine gives_of_run (E := U1) (lv := 1) (ds := []) (v := I (bif (fineL [a, b]) then told (⟨mx a.lo b.lo, mn a.hi b.hi, false⟩) else bd)) (ps := [fineP [ivs [a, b]], told5P [I (⟨mx a.lo b.lo, mn a.hi b.hi, false⟩), .bool (fineL [a, b])]]) mo (by kernel_rfl) (ps_cons (ivs_ok (by simp)) (ps_cons ⟨_, rfl⟩ ps_nil)) ?_
 rfl
theorem meet_gives (args : List Value) (h : iP2 args) : Gives P 114 args.toArray ((two2 fun a b => I (meetI a b)) args) := by
 unfold iP2 at h
 split at h
 · obtain ⟨⟨a, rfl⟩, b, rfl⟩ := h
   show Gives P _ #[I a, I b] (I (meetI a b))
   exact meet0_leaf a b  
 · exact h.elim
noncomputable def cMeet : Ctr P := ⟨114, iP2, two2 fun a b => I (meetI a b), meet_gives⟩
theorem hd0_leaf (a b : Iv)  (q0 : (fineL [a, b]) = true) (q1 : (decide (a.lo ≤ b.lo)) = true) : Gives P 16 #[I a, I b] (.bool (holdsI a b)) := by
 refine gives_of_run (E := U1) (lv := 1) (ds := (.lit :: (.b true :: (.b true :: [])))) (v := .bool (decide (b.hi ≤ a.hi))) (ps := [fineP [ivs [a, b]], (fineL [a, b]) = true, (decide (a.lo ≤ b.lo)) = true]) mo (by kernel_rfl) (ps_cons (ivs_ok (by simp)) (ps_cons q0 (ps_cons q1 ps_nil))) ?_
 unfold holdsI
 rw [q0, q1]
 rfl
theorem hd1_leaf (a b : Iv)  (q0 : (fineL [a, b]) = false) : Gives P 16 #[I a, I b] (.bool (holdsI a b)) := by
 refine gives_of_run (E := U1) (lv := 1) (ds := (.lit :: (.b false :: []))) (v := .bool false) (ps := [fineP [ivs [a, b]], (fineL [a, b]) = false]) mo (by kernel_rfl) (ps_cons (ivs_ok (by simp)) (ps_cons q0 ps_nil)) ?_
 unfold holdsI
 rw [q0]
 rfl
theorem hd2_leaf (a b : Iv)  (q0 : (fineL [a, b]) = true) (q1 : (decide (a.lo ≤ b.lo)) = false) : Gives P 16 #[I a, I b] (.bool (holdsI a b)) := by
 refine gives_of_run (E := U1) (lv := 1) (ds := (.lit :: (.b true :: (.b false :: [])))) (v := .bool false) (ps := [fineP [ivs [a, b]], (fineL [a, b]) = true, (decide (a.lo ≤ b.lo)) = false]) mo (by kernel_rfl) (ps_cons (ivs_ok (by simp)) (ps_cons q0 (ps_cons q1 ps_nil))) ?_
 unfold holdsI
 rw [q0, q1]
 rfl
theorem hd_gives (args : List Value) (h : iP2 args) : Gives P 16 args.toArray ((two2 fun a b => .bool (holdsI a b)) args) := by
 unfold iP2 at h
 split at h
 · obtain ⟨⟨a, rfl⟩, b, rfl⟩ := h
   show Gives P _ #[I a, I b] (.bool (holdsI a b))
   cases q0 : (fineL [a, b]) with
   | true =>
    cases q1 : (decide (a.lo ≤ b.lo)) with
    | true =>
     exact hd0_leaf a b  q0 q1
    | false =>
     exact hd2_leaf a b  q0 q1
   | false =>
    exact hd1_leaf a b  q0
 · exact h.elim
noncomputable def cHolds : Ctr P := ⟨16, iP2, two2 fun a b => .bool (holdsI a b), hd_gives⟩
noncomputable def U3 : Env P := ⟨⟨Rd.refC ++ R3.ref3C, []⟩, [], 10, []⟩
def byR (x n d : Int) : Bool := (qe (x * n) d == 0) && (i64B (qv fq (x * n) d) && (i64B (qv cq (x * n) d) && (decide (byLo x n d ≥ -1152921504606846976) && decide (byHi x n d ≤ 1152921504606846976))))
theorem byOk_eq' {x n d : Int} (hx : I64 x) (hn : I64 n) (hd : I64 d) : byOk x n d = byR x n d := by
 have ha := smmul hx hn
 have hb := sm64 hd
 unfold byOk byR
 by_cases h : d = 0
 · subst h
   rw [qe_z]
   simp
 · have := fq_cq (x * n) d
   unfold byLo byHi
   rw [qe_ok ha hb h, qv_ok fq ha hb h, qv_ok cq ha hb h]
   generalize fq (x * n) d = f at *
   generalize cq (x * n) d = c at *
   rw [Bool.eq_iff_iff]
   simp only [Bool.and_eq_true, decide_eq_true_eq, beq_self_eq_true, true_and, i64B]
   constructor
   · rintro ⟨_, h1, h2⟩
     refine ⟨⟨by omega, by omega⟩, ⟨by omega, by omega⟩, ?_⟩
     rw [if_pos ⟨by omega, by omega⟩, if_pos ⟨by omega, by omega⟩]
     omega
   · rintro ⟨h1, h2, h3⟩
     rw [if_pos h1, if_pos h2] at h3
     exact ⟨h, by omega, by omega⟩
theorem by0_run (x n d : Int) : runF P U3 1 62 [.int .i64 x, .int .i64 n, .int .i64 d] (.b false :: []) =
 some (.tuple #[.int .i64 (if i64B (tI (W (qv fq (tI (W (tI (W x) * tI (W n)))) (tI (W d))))) then tI (W (qv fq (tI (W (tI (W x) * tI (W n)))) (tI (W d)))) else 0), .int .i64 (if i64B (tI (W (qv cq (tI (W (tI (W x) * tI (W n)))) (tI (W d))))) then tI (W (qv cq (tI (W (tI (W x) * tI (W n)))) (tI (W d)))) else 0), .bool false], [ofP [.int .i64 x], ofP [.int .i64 n], P2 [W x, W n], ofP [.int .i64 d], P2 [W (tI (W x) * tI (W n)), W d], ofP [.int .i64 d], P2 [W (tI (W x) * tI (W n)), W d], P1 [W (qv fq (tI (W (tI (W x) * tI (W n)))) (tI (W d)))], P1 [W (qv cq (tI (W (tI (W x) * tI (W n)))) (tI (W d)))], (qe (tI (W (tI (W x) * tI (W n)))) (tI (W d)) == 0) = false]) := by kernel_rfl
theorem by0_leaf (x n d : Int) (hx : I64 x) (hn : I64 n) (hd : I64 d) (q0 : (qe (x * n) d == 0) = false) : Gives P 62 #[.int .i64 x, .int .i64 n, .int .i64 d] (byV [.int .i64 x, .int .i64 n, .int .i64 d]) := by
 have e0 : tI (W x) = x := tI_in (i64_in hx)
 have e1 : tI (W n) = n := tI_in (i64_in hn)
 have e2 : tI (W (x * n)) = x * n := tI_in (inR_of (smmul hx hn))
 have e3 : tI (W d) = d := tI_in (i64_in hd)
 have e4 : tI (W (qv fq ((x * n)) d)) = qv fq ((x * n)) d := tI_in (qvf_in (smmul hx hn) (sm64 hd))
 have e5 : tI (W (qv cq ((x * n)) d)) = qv cq ((x * n)) d := tI_in (qvc_in (smmul hx hn) (sm64 hd))
 have R := by0_run x n d
 rw [e0, e1, e2, e3, e4, e5] at R
 refine gives_of_run mo R (ps_cons hx (ps_cons hn (ps_cons (P2_W _ _) (ps_cons hd (ps_cons (P2_W _ _) (ps_cons hd (ps_cons (P2_W _ _) (ps_cons (P1_W _) (ps_cons (P1_W _) (ps_cons q0 ps_nil)))))))))) ?_
 have eb : byOk x n d = false := by
  rw [byOk_eq' hx hn hd]
  unfold byR
  rw [q0]
  rfl
 show _ = Value.tuple #[.int .i64 (byLo x n d), .int .i64 (byHi x n d), .bool (byOk x n d)]
 rw [eb]
 rfl
theorem by1_run (x n d : Int) : runF P U3 1 62 [.int .i64 x, .int .i64 n, .int .i64 d] (.b true :: (.b false :: [])) =
 some (.tuple #[.int .i64 (if i64B (tI (W (qv fq (tI (W (tI (W x) * tI (W n)))) (tI (W d))))) then tI (W (qv fq (tI (W (tI (W x) * tI (W n)))) (tI (W d)))) else 0), .int .i64 (if i64B (tI (W (qv cq (tI (W (tI (W x) * tI (W n)))) (tI (W d))))) then tI (W (qv cq (tI (W (tI (W x) * tI (W n)))) (tI (W d)))) else 0), .bool false], [ofP [.int .i64 x], ofP [.int .i64 n], P2 [W x, W n], ofP [.int .i64 d], P2 [W (tI (W x) * tI (W n)), W d], ofP [.int .i64 d], P2 [W (tI (W x) * tI (W n)), W d], P1 [W (qv fq (tI (W (tI (W x) * tI (W n)))) (tI (W d)))], P1 [W (qv cq (tI (W (tI (W x) * tI (W n)))) (tI (W d)))], (qe (tI (W (tI (W x) * tI (W n)))) (tI (W d)) == 0) = true, (i64B (tI (W (qv fq (tI (W (tI (W x) * tI (W n)))) (tI (W d)))))) = false]) := by kernel_rfl
theorem by1_leaf (x n d : Int) (hx : I64 x) (hn : I64 n) (hd : I64 d) (q0 : (qe (x * n) d == 0) = true) (q1 : (i64B (qv fq (x * n) d)) = false) : Gives P 62 #[.int .i64 x, .int .i64 n, .int .i64 d] (byV [.int .i64 x, .int .i64 n, .int .i64 d]) := by
 have e0 : tI (W x) = x := tI_in (i64_in hx)
 have e1 : tI (W n) = n := tI_in (i64_in hn)
 have e2 : tI (W (x * n)) = x * n := tI_in (inR_of (smmul hx hn))
 have e3 : tI (W d) = d := tI_in (i64_in hd)
 have e4 : tI (W (qv fq ((x * n)) d)) = qv fq ((x * n)) d := tI_in (qvf_in (smmul hx hn) (sm64 hd))
 have e5 : tI (W (qv cq ((x * n)) d)) = qv cq ((x * n)) d := tI_in (qvc_in (smmul hx hn) (sm64 hd))
 have R := by1_run x n d
 rw [e0, e1, e2, e3, e4, e5] at R
 refine gives_of_run mo R (ps_cons hx (ps_cons hn (ps_cons (P2_W _ _) (ps_cons hd (ps_cons (P2_W _ _) (ps_cons hd (ps_cons (P2_W _ _) (ps_cons (P1_W _) (ps_cons (P1_W _) (ps_cons q0 (ps_cons q1 ps_nil))))))))))) ?_
 have eb : byOk x n d = false := by
  rw [byOk_eq' hx hn hd]
  unfold byR
  rw [q0, q1]
  rfl
 show _ = Value.tuple #[.int .i64 (byLo x n d), .int .i64 (byHi x n d), .bool (byOk x n d)]
 rw [eb]
 rfl
theorem by2_run (x n d : Int) : runF P U3 1 62 [.int .i64 x, .int .i64 n, .int .i64 d] (.b true :: (.b true :: (.b false :: []))) =
 some (.tuple #[.int .i64 (if i64B (tI (W (qv fq (tI (W (tI (W x) * tI (W n)))) (tI (W d))))) then tI (W (qv fq (tI (W (tI (W x) * tI (W n)))) (tI (W d)))) else 0), .int .i64 (if i64B (tI (W (qv cq (tI (W (tI (W x) * tI (W n)))) (tI (W d))))) then tI (W (qv cq (tI (W (tI (W x) * tI (W n)))) (tI (W d)))) else 0), .bool false], [ofP [.int .i64 x], ofP [.int .i64 n], P2 [W x, W n], ofP [.int .i64 d], P2 [W (tI (W x) * tI (W n)), W d], ofP [.int .i64 d], P2 [W (tI (W x) * tI (W n)), W d], P1 [W (qv fq (tI (W (tI (W x) * tI (W n)))) (tI (W d)))], P1 [W (qv cq (tI (W (tI (W x) * tI (W n)))) (tI (W d)))], (qe (tI (W (tI (W x) * tI (W n)))) (tI (W d)) == 0) = true, (i64B (tI (W (qv fq (tI (W (tI (W x) * tI (W n)))) (tI (W d)))))) = true, (i64B (tI (W (qv cq (tI (W (tI (W x) * tI (W n)))) (tI (W d)))))) = false]) := by kernel_rfl
theorem by2_leaf (x n d : Int) (hx : I64 x) (hn : I64 n) (hd : I64 d) (q0 : (qe (x * n) d == 0) = true) (q1 : (i64B (qv fq (x * n) d)) = true) (q2 : (i64B (qv cq (x * n) d)) = false) : Gives P 62 #[.int .i64 x, .int .i64 n, .int .i64 d] (byV [.int .i64 x, .int .i64 n, .int .i64 d]) := by
 have e0 : tI (W x) = x := tI_in (i64_in hx)
 have e1 : tI (W n) = n := tI_in (i64_in hn)
 have e2 : tI (W (x * n)) = x * n := tI_in (inR_of (smmul hx hn))
 have e3 : tI (W d) = d := tI_in (i64_in hd)
 have e4 : tI (W (qv fq ((x * n)) d)) = qv fq ((x * n)) d := tI_in (qvf_in (smmul hx hn) (sm64 hd))
 have e5 : tI (W (qv cq ((x * n)) d)) = qv cq ((x * n)) d := tI_in (qvc_in (smmul hx hn) (sm64 hd))
 have R := by2_run x n d
 rw [e0, e1, e2, e3, e4, e5] at R
 refine gives_of_run mo R (ps_cons hx (ps_cons hn (ps_cons (P2_W _ _) (ps_cons hd (ps_cons (P2_W _ _) (ps_cons hd (ps_cons (P2_W _ _) (ps_cons (P1_W _) (ps_cons (P1_W _) (ps_cons q0 (ps_cons q1 (ps_cons q2 ps_nil)))))))))))) ?_
 have eb : byOk x n d = false := by
  rw [byOk_eq' hx hn hd]
  unfold byR
  rw [q0, q1, q2]
  rfl
 show _ = Value.tuple #[.int .i64 (byLo x n d), .int .i64 (byHi x n d), .bool (byOk x n d)]
 rw [eb]
 rfl
theorem by3_run (x n d : Int) : runF P U3 1 62 [.int .i64 x, .int .i64 n, .int .i64 d] (.b true :: (.b true :: (.b true :: (.b false :: [])))) =
 some (.tuple #[.int .i64 (if i64B (tI (W (qv fq (tI (W (tI (W x) * tI (W n)))) (tI (W d))))) then tI (W (qv fq (tI (W (tI (W x) * tI (W n)))) (tI (W d)))) else 0), .int .i64 (if i64B (tI (W (qv cq (tI (W (tI (W x) * tI (W n)))) (tI (W d))))) then tI (W (qv cq (tI (W (tI (W x) * tI (W n)))) (tI (W d)))) else 0), .bool false], [ofP [.int .i64 x], ofP [.int .i64 n], P2 [W x, W n], ofP [.int .i64 d], P2 [W (tI (W x) * tI (W n)), W d], ofP [.int .i64 d], P2 [W (tI (W x) * tI (W n)), W d], P1 [W (qv fq (tI (W (tI (W x) * tI (W n)))) (tI (W d)))], P1 [W (qv cq (tI (W (tI (W x) * tI (W n)))) (tI (W d)))], (qe (tI (W (tI (W x) * tI (W n)))) (tI (W d)) == 0) = true, (i64B (tI (W (qv fq (tI (W (tI (W x) * tI (W n)))) (tI (W d)))))) = true, (i64B (tI (W (qv cq (tI (W (tI (W x) * tI (W n)))) (tI (W d)))))) = true, (decide ((if i64B (tI (W (qv fq (tI (W (tI (W x) * tI (W n)))) (tI (W d))))) then tI (W (qv fq (tI (W (tI (W x) * tI (W n)))) (tI (W d)))) else 0) ≥ -1152921504606846976)) = false]) := by kernel_rfl
theorem by3_leaf (x n d : Int) (hx : I64 x) (hn : I64 n) (hd : I64 d) (q0 : (qe (x * n) d == 0) = true) (q1 : (i64B (qv fq (x * n) d)) = true) (q2 : (i64B (qv cq (x * n) d)) = true) (q3 : (decide (byLo x n d ≥ -1152921504606846976)) = false) : Gives P 62 #[.int .i64 x, .int .i64 n, .int .i64 d] (byV [.int .i64 x, .int .i64 n, .int .i64 d]) := by
 have e0 : tI (W x) = x := tI_in (i64_in hx)
 have e1 : tI (W n) = n := tI_in (i64_in hn)
 have e2 : tI (W (x * n)) = x * n := tI_in (inR_of (smmul hx hn))
 have e3 : tI (W d) = d := tI_in (i64_in hd)
 have e4 : tI (W (qv fq ((x * n)) d)) = qv fq ((x * n)) d := tI_in (qvf_in (smmul hx hn) (sm64 hd))
 have e5 : tI (W (qv cq ((x * n)) d)) = qv cq ((x * n)) d := tI_in (qvc_in (smmul hx hn) (sm64 hd))
 have R := by3_run x n d
 rw [e0, e1, e2, e3, e4, e5] at R
 refine gives_of_run mo R (ps_cons hx (ps_cons hn (ps_cons (P2_W _ _) (ps_cons hd (ps_cons (P2_W _ _) (ps_cons hd (ps_cons (P2_W _ _) (ps_cons (P1_W _) (ps_cons (P1_W _) (ps_cons q0 (ps_cons q1 (ps_cons q2 (ps_cons q3 ps_nil))))))))))))) ?_
 have eb : byOk x n d = false := by
  rw [byOk_eq' hx hn hd]
  unfold byR
  rw [q0, q1, q2, q3]
  rfl
 show _ = Value.tuple #[.int .i64 (byLo x n d), .int .i64 (byHi x n d), .bool (byOk x n d)]
 rw [eb]
 rfl
theorem by4_run (x n d : Int) : runF P U3 1 62 [.int .i64 x, .int .i64 n, .int .i64 d] (.b true :: (.b true :: (.b true :: (.b true :: [])))) =
 some (.tuple #[.int .i64 (if i64B (tI (W (qv fq (tI (W (tI (W x) * tI (W n)))) (tI (W d))))) then tI (W (qv fq (tI (W (tI (W x) * tI (W n)))) (tI (W d)))) else 0), .int .i64 (if i64B (tI (W (qv cq (tI (W (tI (W x) * tI (W n)))) (tI (W d))))) then tI (W (qv cq (tI (W (tI (W x) * tI (W n)))) (tI (W d)))) else 0), .bool (decide ((if i64B (tI (W (qv cq (tI (W (tI (W x) * tI (W n)))) (tI (W d))))) then tI (W (qv cq (tI (W (tI (W x) * tI (W n)))) (tI (W d)))) else 0) ≤ 1152921504606846976))], [ofP [.int .i64 x], ofP [.int .i64 n], P2 [W x, W n], ofP [.int .i64 d], P2 [W (tI (W x) * tI (W n)), W d], ofP [.int .i64 d], P2 [W (tI (W x) * tI (W n)), W d], P1 [W (qv fq (tI (W (tI (W x) * tI (W n)))) (tI (W d)))], P1 [W (qv cq (tI (W (tI (W x) * tI (W n)))) (tI (W d)))], (qe (tI (W (tI (W x) * tI (W n)))) (tI (W d)) == 0) = true, (i64B (tI (W (qv fq (tI (W (tI (W x) * tI (W n)))) (tI (W d)))))) = true, (i64B (tI (W (qv cq (tI (W (tI (W x) * tI (W n)))) (tI (W d)))))) = true, (decide ((if i64B (tI (W (qv fq (tI (W (tI (W x) * tI (W n)))) (tI (W d))))) then tI (W (qv fq (tI (W (tI (W x) * tI (W n)))) (tI (W d)))) else 0) ≥ -1152921504606846976)) = true]) := by kernel_rfl
theorem by4_leaf (x n d : Int) (hx : I64 x) (hn : I64 n) (hd : I64 d) (q0 : (qe (x * n) d == 0) = true) (q1 : (i64B (qv fq (x * n) d)) = true) (q2 : (i64B (qv cq (x * n) d)) = true) (q3 : (decide (byLo x n d ≥ -1152921504606846976)) = true) : Gives P 62 #[.int .i64 x, .int .i64 n, .int .i64 d] (byV [.int .i64 x, .int .i64 n, .int .i64 d]) := by
 have e0 : tI (W x) = x := tI_in (i64_in hx)
 have e1 : tI (W n) = n := tI_in (i64_in hn)
 have e2 : tI (W (x * n)) = x * n := tI_in (inR_of (smmul hx hn))
 have e3 : tI (W d) = d := tI_in (i64_in hd)
 have e4 : tI (W (qv fq ((x * n)) d)) = qv fq ((x * n)) d := tI_in (qvf_in (smmul hx hn) (sm64 hd))
 have e5 : tI (W (qv cq ((x * n)) d)) = qv cq ((x * n)) d := tI_in (qvc_in (smmul hx hn) (sm64 hd))
 have R := by4_run x n d
 rw [e0, e1, e2, e3, e4, e5] at R
 refine gives_of_run mo R (ps_cons hx (ps_cons hn (ps_cons (P2_W _ _) (ps_cons hd (ps_cons (P2_W _ _) (ps_cons hd (ps_cons (P2_W _ _) (ps_cons (P1_W _) (ps_cons (P1_W _) (ps_cons q0 (ps_cons q1 (ps_cons q2 (ps_cons q3 ps_nil))))))))))))) ?_
 have eb : byOk x n d = decide (byHi x n d ≤ 1152921504606846976) := by
  rw [byOk_eq' hx hn hd]
  unfold byR
  rw [q0, q1, q2, q3]
  rfl
 show _ = Value.tuple #[.int .i64 (byLo x n d), .int .i64 (byHi x n d), .bool (byOk x n d)]
 rw [eb]
 rfl
theorem by_gives (args : List Value) (h : byP args) : Gives P 62 args.toArray (byV args) := by
 unfold byP at h
 split at h
 · rename_i x n d
   obtain ⟨hx, hn, hd⟩ := h
   cases q0 : qe (x * n) d == 0 with
   | false => exact by0_leaf x n d hx hn hd q0
   | true =>
   cases q1 : i64B (qv fq (x * n) d) with
   | false => exact by1_leaf x n d hx hn hd q0 q1
   | true =>
   cases q2 : i64B (qv cq (x * n) d) with
   | false => exact by2_leaf x n d hx hn hd q0 q1 q2
   | true =>
   cases q3 : decide (byLo x n d ≥ -1152921504606846976) with
   | false => exact by3_leaf x n d hx hn hd q0 q1 q2 q3
   | true =>
   exact by4_leaf x n d hx hn hd q0 q1 q2 q3
 · exact h.elim
noncomputable def cBy : Ctr P := ⟨62, byP, byV, by_gives⟩
noncomputable def U4 : Env P := ⟨⟨[cTold, cBy], [rFine]⟩, [], 10, []⟩
theorem mul0_leaf (a b : Iv)  (q0 : (fineL [a, b]) = true) (q1 : (byOk a.lo b.lo 1073741824) = true) (q2 : (byOk a.lo b.hi 1073741824) = true) (q3 : (byOk a.hi b.lo 1073741824) = true) (q4 : (byOk a.hi b.hi 1073741824) = true) : Gives P 31 #[I a, I b] (I (mulI a b)) := by
 refine gives_of_run (E := U4) (lv := 2) (ds := (.lit :: (.b false :: (lits 4 (.b false :: (lits 4 (.b false :: (lits 4 (.b false :: (lits 4 (.b false :: []))))))))))) (v := I (bif true then told (⟨mn (mn (mn (mn (byLo a.lo b.lo 1073741824) (byLo a.lo b.lo 1073741824)) (byLo a.lo b.hi 1073741824)) (byLo a.hi b.lo 1073741824)) (byLo a.hi b.hi 1073741824), mx (mx (mx (mx (byHi a.lo b.lo 1073741824) (byHi a.lo b.lo 1073741824)) (byHi a.lo b.hi 1073741824)) (byHi a.hi b.lo 1073741824)) (byHi a.hi b.hi 1073741824), false⟩) else bd)) (ps := [fineP [ivs [a, b]], (!(fineL [a, b])) = false, byP [.int .i64 a.lo, .int .i64 b.lo, .int .i64 1073741824], (!(byOk a.lo b.lo 1073741824)) = false, byP [.int .i64 a.lo, .int .i64 b.hi, .int .i64 1073741824], (!(byOk a.lo b.hi 1073741824)) = false, byP [.int .i64 a.hi, .int .i64 b.lo, .int .i64 1073741824], (!(byOk a.hi b.lo 1073741824)) = false, byP [.int .i64 a.hi, .int .i64 b.hi, .int .i64 1073741824], (!(byOk a.hi b.hi 1073741824)) = false, told5P [I (⟨mn (mn (mn (mn (byLo a.lo b.lo 1073741824) (byLo a.lo b.lo 1073741824)) (byLo a.lo b.hi 1073741824)) (byLo a.hi b.lo 1073741824)) (byLo a.hi b.hi 1073741824), mx (mx (mx (mx (byHi a.lo b.lo 1073741824) (byHi a.lo b.lo 1073741824)) (byHi a.lo b.hi 1073741824)) (byHi a.hi b.lo 1073741824)) (byHi a.hi b.hi 1073741824), false⟩), .bool true]]) mo (by kernel_rfl) (ps_cons (ivs_ok (by simp)) (ps_cons (neg_f q0) (ps_cons (let fa := (fine2.1 q0).1; let fb := (fine2.1 q0).2; ⟨(fine64 fa).1, (fine64 fb).1, i64one⟩) (ps_cons (neg_f q1) (ps_cons (let fa := (fine2.1 q0).1; let fb := (fine2.1 q0).2; ⟨(fine64 fa).1, (fine64 fb).2, i64one⟩) (ps_cons (neg_f q2) (ps_cons (let fa := (fine2.1 q0).1; let fb := (fine2.1 q0).2; ⟨(fine64 fa).2, (fine64 fb).1, i64one⟩) (ps_cons (neg_f q3) (ps_cons (let fa := (fine2.1 q0).1; let fb := (fine2.1 q0).2; ⟨(fine64 fa).2, (fine64 fb).2, i64one⟩) (ps_cons (neg_f q4) (ps_cons ⟨_, rfl⟩ ps_nil))))))))))) ?_
 unfold mulI
 rw [q0, q1, q2, q3, q4]
 rfl
theorem mul1_leaf (a b : Iv)  (q0 : (fineL [a, b]) = false) : Gives P 31 #[I a, I b] (I (mulI a b)) := by
 refine gives_of_run (E := U4) (lv := 2) (ds := (.lit :: (.b true :: []))) (v := I (⟨0, 0, true⟩)) (ps := [fineP [ivs [a, b]], (!(fineL [a, b])) = true]) mo (by kernel_rfl) (ps_cons (ivs_ok (by simp)) (ps_cons (neg_t q0) ps_nil)) ?_
 unfold mulI
 rw [q0]
 rfl
theorem mul2_leaf (a b : Iv)  (q0 : (fineL [a, b]) = true) (q1 : (byOk a.lo b.lo 1073741824) = false) : Gives P 31 #[I a, I b] (I (mulI a b)) := by
 refine gives_of_run (E := U4) (lv := 2) (ds := (.lit :: (.b false :: (lits 4 (.b true :: []))))) (v := I (⟨0, 0, true⟩)) (ps := [fineP [ivs [a, b]], (!(fineL [a, b])) = false, byP [.int .i64 a.lo, .int .i64 b.lo, .int .i64 1073741824], (!(byOk a.lo b.lo 1073741824)) = true]) mo (by kernel_rfl) (ps_cons (ivs_ok (by simp)) (ps_cons (neg_f q0) (ps_cons (let fa := (fine2.1 q0).1; let fb := (fine2.1 q0).2; ⟨(fine64 fa).1, (fine64 fb).1, i64one⟩) (ps_cons (neg_t q1) ps_nil)))) ?_
 unfold mulI
 rw [q0, q1]
 rfl
theorem mul3_leaf (a b : Iv)  (q0 : (fineL [a, b]) = true) (q1 : (byOk a.lo b.lo 1073741824) = true) (q2 : (byOk a.lo b.hi 1073741824) = false) : Gives P 31 #[I a, I b] (I (mulI a b)) := by
 refine gives_of_run (E := U4) (lv := 2) (ds := (.lit :: (.b false :: (lits 4 (.b false :: (lits 4 (.b true :: []))))))) (v := I (⟨0, 0, true⟩)) (ps := [fineP [ivs [a, b]], (!(fineL [a, b])) = false, byP [.int .i64 a.lo, .int .i64 b.lo, .int .i64 1073741824], (!(byOk a.lo b.lo 1073741824)) = false, byP [.int .i64 a.lo, .int .i64 b.hi, .int .i64 1073741824], (!(byOk a.lo b.hi 1073741824)) = true]) mo (by kernel_rfl) (ps_cons (ivs_ok (by simp)) (ps_cons (neg_f q0) (ps_cons (let fa := (fine2.1 q0).1; let fb := (fine2.1 q0).2; ⟨(fine64 fa).1, (fine64 fb).1, i64one⟩) (ps_cons (neg_f q1) (ps_cons (let fa := (fine2.1 q0).1; let fb := (fine2.1 q0).2; ⟨(fine64 fa).1, (fine64 fb).2, i64one⟩) (ps_cons (neg_t q2) ps_nil)))))) ?_
 unfold mulI
 rw [q0, q1, q2]
 rfl
theorem mul4_leaf (a b : Iv)  (q0 : (fineL [a, b]) = true) (q1 : (byOk a.lo b.lo 1073741824) = true) (q2 : (byOk a.lo b.hi 1073741824) = true) (q3 : (byOk a.hi b.lo 1073741824) = false) : Gives P 31 #[I a, I b] (I (mulI a b)) := by
 refine gives_of_run (E := U4) (lv := 2) (ds := (.lit :: (.b false :: (lits 4 (.b false :: (lits 4 (.b false :: (lits 4 (.b true :: []))))))))) (v := I (⟨0, 0, true⟩)) (ps := [fineP [ivs [a, b]], (!(fineL [a, b])) = false, byP [.int .i64 a.lo, .int .i64 b.lo, .int .i64 1073741824], (!(byOk a.lo b.lo 1073741824)) = false, byP [.int .i64 a.lo, .int .i64 b.hi, .int .i64 1073741824], (!(byOk a.lo b.hi 1073741824)) = false, byP [.int .i64 a.hi, .int .i64 b.lo, .int .i64 1073741824], (!(byOk a.hi b.lo 1073741824)) = true]) mo (by kernel_rfl) (ps_cons (ivs_ok (by simp)) (ps_cons (neg_f q0) (ps_cons (let fa := (fine2.1 q0).1; let fb := (fine2.1 q0).2; ⟨(fine64 fa).1, (fine64 fb).1, i64one⟩) (ps_cons (neg_f q1) (ps_cons (let fa := (fine2.1 q0).1; let fb := (fine2.1 q0).2; ⟨(fine64 fa).1, (fine64 fb).2, i64one⟩) (ps_cons (neg_f q2) (ps_cons (let fa := (fine2.1 q0).1; let fb := (fine2.1 q0).2; ⟨(fine64 fa).2, (fine64 fb).1, i64one⟩) (ps_cons (neg_t q3) ps_nil)))))))) ?_
 unfold mulI
 rw [q0, q1, q2, q3]
 rfl
theorem mul5_leaf (a b : Iv)  (q0 : (fineL [a, b]) = true) (q1 : (byOk a.lo b.lo 1073741824) = true) (q2 : (byOk a.lo b.hi 1073741824) = true) (q3 : (byOk a.hi b.lo 1073741824) = true) (q4 : (byOk a.hi b.hi 1073741824) = false) : Gives P 31 #[I a, I b] (I (mulI a b)) := by
 refine gives_of_run (E := U4) (lv := 2) (ds := (.lit :: (.b false :: (lits 4 (.b false :: (lits 4 (.b false :: (lits 4 (.b false :: (lits 4 (.b true :: []))))))))))) (v := I (⟨0, 0, true⟩)) (ps := [fineP [ivs [a, b]], (!(fineL [a, b])) = false, byP [.int .i64 a.lo, .int .i64 b.lo, .int .i64 1073741824], (!(byOk a.lo b.lo 1073741824)) = false, byP [.int .i64 a.lo, .int .i64 b.hi, .int .i64 1073741824], (!(byOk a.lo b.hi 1073741824)) = false, byP [.int .i64 a.hi, .int .i64 b.lo, .int .i64 1073741824], (!(byOk a.hi b.lo 1073741824)) = false, byP [.int .i64 a.hi, .int .i64 b.hi, .int .i64 1073741824], (!(byOk a.hi b.hi 1073741824)) = true]) mo (by kernel_rfl) (ps_cons (ivs_ok (by simp)) (ps_cons (neg_f q0) (ps_cons (let fa := (fine2.1 q0).1; let fb := (fine2.1 q0).2; ⟨(fine64 fa).1, (fine64 fb).1, i64one⟩) (ps_cons (neg_f q1) (ps_cons (let fa := (fine2.1 q0).1; let fb := (fine2.1 q0).2; ⟨(fine64 fa).1, (fine64 fb).2, i64one⟩) (ps_cons (neg_f q2) (ps_cons (let fa := (fine2.1 q0).1; let fb := (fine2.1 q0).2; ⟨(fine64 fa).2, (fine64 fb).1, i64one⟩) (ps_cons (neg_f q3) (ps_cons (let fa := (fine2.1 q0).1; let fb := (fine2.1 q0).2; ⟨(fine64 fa).2, (fine64 fb).2, i64one⟩) (ps_cons (neg_t q4) ps_nil)))))))))) ?_
 unfold mulI
 rw [q0, q1, q2, q3, q4]
 rfl
theorem mul_gives (args : List Value) (h : iP2 args) : Gives P 31 args.toArray ((two2 fun a b => I (mulI a b)) args) := by
 unfold iP2 at h
 split at h
 · obtain ⟨⟨a, rfl⟩, b, rfl⟩ := h
   show Gives P _ #[I a, I b] (I (mulI a b))
   cases q0 : (fineL [a, b]) with
   | true =>
    cases q1 : (byOk a.lo b.lo 1073741824) with
    | true =>
     cases q2 : (byOk a.lo b.hi 1073741824) with
     | true =>
      cases q3 : (byOk a.hi b.lo 1073741824) with
      | true =>
       cases q4 : (byOk a.hi b.hi 1073741824) with
       | true =>
        exact mul0_leaf a b  q0 q1 q2 q3 q4
       | false =>
        exact mul5_leaf a b  q0 q1 q2 q3 q4
      | false =>
       exact mul4_leaf a b  q0 q1 q2 q3
     | false =>
      exact mul3_leaf a b  q0 q1 q2
    | false =>
     exact mul2_leaf a b  q0 q1
   | false =>
    exact mul1_leaf a b  q0
 · exact h.elim
noncomputable def cMul : Ctr P := ⟨31, iP2, two2 fun a b => I (mulI a b), mul_gives⟩
theorem partR_eq (a : Iv) (n d : Int) : partR a n d = ⟨mn (byLo a.lo n d) (byLo a.hi n d), mx (byHi a.lo n d) (byHi a.hi n d), false⟩ := by
 unfold partR wide2
 have e1 : ∀ x : Int, mn x x = x := fun x => by unfold mn; rw [if_neg (by omega)]
 have e2 : ∀ x : Int, mx x x = x := fun x => by unfold mx; rw [if_neg (by omega)]
 rw [e1, e2]
theorem byOk_0 (x n : Int) : byOk x n 0 = false := by unfold byOk; rfl
theorem part0_leaf (a : Iv) (n d : Int) (hn : I64 n) (hd : I64 d) (q0 : (fineL [a]) = true) (q1 : (d == 0) = true) : Gives P 33 #[I a, .int .i64 n, .int .i64 d] (I (partI a n d)) := by
 have _hn := hn
 have _hd := hd
 refine gives_of_run (E := U4) (lv := 2) (ds := (.lit :: (.b false :: (.b true :: [])))) (v := I (⟨0, 0, true⟩)) (ps := [fineP [ivs [a]], (!(fineL [a])) = false, (d == 0) = true]) mo (by kernel_rfl) (ps_cons (ivs_ok (by simp)) (ps_cons (neg_f q0) (ps_cons q1 ps_nil))) ?_
 have hz : d = 0 := by simpa using q1
 subst hz
 unfold partI
 rw [byOk_0, Bool.false_and, Bool.and_false]
 rfl
theorem part1_leaf (a : Iv) (n d : Int) (hn : I64 n) (hd : I64 d) (q0 : (fineL [a]) = false) : Gives P 33 #[I a, .int .i64 n, .int .i64 d] (I (partI a n d)) := by
 have _hn := hn
 have _hd := hd
 refine gives_of_run (E := U4) (lv := 2) (ds := (.lit :: (.b true :: []))) (v := I (⟨0, 0, true⟩)) (ps := [fineP [ivs [a]], (!(fineL [a])) = true]) mo (by kernel_rfl) (ps_cons (ivs_ok (by simp)) (ps_cons (neg_t q0) ps_nil)) ?_
 unfold partI
 rw [q0]
 rfl
theorem part2_leaf (a : Iv) (n d : Int) (hn : I64 n) (hd : I64 d) (q0 : (fineL [a]) = true) (q1 : (d == 0) = false) (q2 : (byOk a.lo n d) = true) : Gives P 33 #[I a, .int .i64 n, .int .i64 d] (I (partI a n d)) := by
 have _hn := hn
 have _hd := hd
 refine gives_of_run (E := U4) (lv := 1) (ds := (.lit :: (.b false :: (.b false :: (.b true :: []))))) (v := I (bif (byOk a.hi n d) then told (⟨mn (byLo a.lo n d) (byLo a.hi n d), mx (byHi a.lo n d) (byHi a.hi n d), false⟩) else bd)) (ps := [fineP [ivs [a]], (!(fineL [a])) = false, (d == 0) = false, byP [.int .i64 a.lo, .int .i64 n, .int .i64 d], byP [.int .i64 a.hi, .int .i64 n, .int .i64 d], (byOk a.lo n d) = true, told5P [I (⟨mn (byLo a.lo n d) (byLo a.hi n d), mx (byHi a.lo n d) (byHi a.hi n d), false⟩), .bool (byOk a.hi n d)]]) mo (by kernel_rfl) (ps_cons (ivs_ok (by simp)) (ps_cons (neg_f q0) (ps_cons q1 (ps_cons (let fa := fine1 ▸ q0; ⟨(fine64 fa).1, hn, hd⟩) (ps_cons (let fa := fine1 ▸ q0; ⟨(fine64 fa).2, hn, hd⟩) (ps_cons q2 (ps_cons ⟨_, rfl⟩ ps_nil))))))) ?_
 unfold partI
 rw [q0, q2, partR_eq]
 rfl
theorem part3_leaf (a : Iv) (n d : Int) (hn : I64 n) (hd : I64 d) (q0 : (fineL [a]) = true) (q1 : (d == 0) = false) (q2 : (byOk a.lo n d) = false) : Gives P 33 #[I a, .int .i64 n, .int .i64 d] (I (partI a n d)) := by
 have _hn := hn
 have _hd := hd
 refine gives_of_run (E := U4) (lv := 1) (ds := (.lit :: (.b false :: (.b false :: (.b false :: []))))) (v := I (bif false then told (⟨mn (byLo a.lo n d) (byLo a.hi n d), mx (byHi a.lo n d) (byHi a.hi n d), false⟩) else bd)) (ps := [fineP [ivs [a]], (!(fineL [a])) = false, (d == 0) = false, byP [.int .i64 a.lo, .int .i64 n, .int .i64 d], byP [.int .i64 a.hi, .int .i64 n, .int .i64 d], (byOk a.lo n d) = false, told5P [I (⟨mn (byLo a.lo n d) (byLo a.hi n d), mx (byHi a.lo n d) (byHi a.hi n d), false⟩), .bool false]]) mo (by kernel_rfl) (ps_cons (ivs_ok (by simp)) (ps_cons (neg_f q0) (ps_cons q1 (ps_cons (let fa := fine1 ▸ q0; ⟨(fine64 fa).1, hn, hd⟩) (ps_cons (let fa := fine1 ▸ q0; ⟨(fine64 fa).2, hn, hd⟩) (ps_cons q2 (ps_cons ⟨_, rfl⟩ ps_nil))))))) ?_
 unfold partI
 rw [q0, q2]
 rfl
theorem part_gives (args : List Value) (h : partP args) : Gives P 33 args.toArray ((partV) args) := by
 unfold partP at h
 split at h
 · rename_i n d
   obtain ⟨⟨a, rfl⟩, hn, hd⟩ := h
   show Gives P _ #[I a, .int .i64 n, .int .i64 d] (I (partI a n d))
   cases q0 : (fineL [a]) with
   | true =>
    cases q1 : (d == 0) with
    | true =>
     exact part0_leaf a n d hn hd q0 q1
    | false =>
     cases q2 : (byOk a.lo n d) with
     | true =>
      exact part2_leaf a n d hn hd q0 q1 q2
     | false =>
      exact part3_leaf a n d hn hd q0 q1 q2
   | false =>
    exact part1_leaf a n d hn hd q0
 · exact h.elim
noncomputable def cPart : Ctr P := ⟨33, partP, partV, part_gives⟩
noncomputable def rf5C : List (Ctr P) := [cTold, cPoint, cOf, cMake, cAdd, cSub, cMeet, cHolds, cMul, cPart]
end Go.R5
