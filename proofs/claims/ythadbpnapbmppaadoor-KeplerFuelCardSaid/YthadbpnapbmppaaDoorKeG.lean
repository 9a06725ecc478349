/-
  The laws KeplerGap and KeplerFuel come to true. Printed by keE.py.
-/
import Derived.Test.YthadbpnapbmppaaDoorKeE
set_option maxRecDepth 100000
namespace Go.Ke
open Go Go.RowKit Go.Sx Go.Nm Go.Wd Go.Qt Go.Iv Go.An Go.Wv Go.Nv Go.Proofs

noncomputable def EG : Env P := ⟨⟨[kMay, kWakes] ++ kepC ++ R5.rf5C, [rFine]⟩, [], 20, []⟩
structure Gl (m e p q : Int) : Prop where
  f1 : gpE m e p = 0
  f2 : gpE m e q = 0
  f3 : gpE 0 e p = 0
  f : fineL [gpI m e p, gpI m e q, gpI 0 e p] = true
  r : (gpI m e p).lo ≤ (gpI m e q).hi
  a : IntKind.i64.wrap ((gpI 0 e p).lo - ((gpI m e p).lo)) = m
  b : IntKind.i64.wrap ((gpI 0 e p).hi - ((gpI m e p).hi)) = m
  c : IntKind.i64.wrap ((gpI m e p).hi - ((gpI m e p).lo)) ≤ 256
theorem gl {m e p q : Int} (h : mB m e = true) (h1 : ¬ p < -1073741824) (h2 : ¬ p > q) (h3 : ¬ q > 4294967296) : Gl m e p q := by
  have bp : pB p = true := pB_iff.2 ⟨by omega, by omega⟩
  have bq' : pB q = true := pB_iff.2 ⟨by omega, by omega⟩
  have a := mB_iff.1 h
  have h0 : mB 0 e = true := mB_iff.2 ⟨by omega, by omega, a.2.2.1, a.2.2.2⟩
  have Mp := may_of h bp
  have Mq := may_of h bq'
  have M0 := may_of h0 bp
  have gP := gp Mp
  have gQ := gp Mq
  have g0 := gp M0
  have eP : gpI m e p = gapI m e p := by unfold gpI; rw [h, bp]; rfl
  have eQ : gpI m e q = gapI m e q := by unfold gpI; rw [h, bq']; rfl
  have e0 : gpI 0 e p = gapI 0 e p := by unfold gpI; rw [h0, bp]; rfl
  have g := gap_m Mp
  have l := gP.l
  have u := gP.u
  have w := gP.w
  refine ⟨by unfold gpE; rw [h, bp]; rfl, by unfold gpE; rw [h, bq']; rfl, by unfold gpE; rw [h0, bp]; rfl, ?_, by rw [eP, eQ]; exact rises Mp Mq (by omega), ?_, ?_, ?_⟩
  · rw [eP, eQ, e0]
    unfold fineL fineL fineL fineL
    rw [gP.f, gQ.f, g0.f]; rfl
  · rw [e0, eP, Iv.wr (by omega) (by omega)]; exact g.1
  · rw [e0, eP, Iv.wr (by omega) (by omega)]; exact g.2.1
  · rw [eP]
    have w2 := g.2.2
    have r := fine_iff.1 gP.f
    rw [Iv.wr (by omega) (by omega)]; exact w2
theorem kg0_run (m e p q : Int) : runF P EG 1 4 [.int .i64 m, .int .i64 e, .int .i64 p, .int .i64 q] (.b false :: (.b true :: [])) =
  some (.bool true,
    [i2P [.int .i64 m, .int .i64 e],
     (!(mB m e)) = false,
     (decide (p < -1073741824)) = true,
     wakesP []]) := by kernel_rfl
theorem kg0_leaf (m e p q : Int) (hm : I64 m) (he : I64 e) (hp : I64 p) (hq : I64 q) (q0 : (mB m e) = true) (q1 : (decide (p < -1073741824)) = true) : Gives P 4 #[.int .i64 m, .int .i64 e, .int .i64 p, .int .i64 q] (.bool true) := by
  have _u := And.intro hm (And.intro he (And.intro hp hq))
  have R := kg0_run m e p q
  refine gives_of_run mo R (ps_cons ⟨hm, he⟩ (ps_cons (neg_f q0) (ps_cons q1 (ps_cons trivial ps_nil)))) ?_
  rfl
theorem kg1_run (m e p q : Int) : runF P EG 1 4 [.int .i64 m, .int .i64 e, .int .i64 p, .int .i64 q] (.b true :: []) =
  some (.bool true,
    [i2P [.int .i64 m, .int .i64 e],
     (!(mB m e)) = true,
     wakesP []]) := by kernel_rfl
theorem kg1_leaf (m e p q : Int) (hm : I64 m) (he : I64 e) (hp : I64 p) (hq : I64 q) (q0 : (mB m e) = false) : Gives P 4 #[.int .i64 m, .int .i64 e, .int .i64 p, .int .i64 q] (.bool true) := by
  have _u := And.intro hm (And.intro he (And.intro hp hq))
  have R := kg1_run m e p q
  refine gives_of_run mo R (ps_cons ⟨hm, he⟩ (ps_cons (neg_t q0) (ps_cons trivial ps_nil))) ?_
  rfl
theorem kg2_run (m e p q : Int) : runF P EG 1 4 [.int .i64 m, .int .i64 e, .int .i64 p, .int .i64 q] (.b false :: (.b false :: (.b true :: []))) =
  some (.bool true,
    [i2P [.int .i64 m, .int .i64 e],
     (!(mB m e)) = false,
     (decide (p < -1073741824)) = false,
     (decide (p > q)) = true,
     wakesP []]) := by kernel_rfl
theorem kg2_leaf (m e p q : Int) (hm : I64 m) (he : I64 e) (hp : I64 p) (hq : I64 q) (q0 : (mB m e) = true) (q1 : (decide (p < -1073741824)) = false) (q2 : (decide (p > q)) = true) : Gives P 4 #[.int .i64 m, .int .i64 e, .int .i64 p, .int .i64 q] (.bool true) := by
  have _u := And.intro hm (And.intro he (And.intro hp hq))
  have R := kg2_run m e p q
  refine gives_of_run mo R (ps_cons ⟨hm, he⟩ (ps_cons (neg_f q0) (ps_cons q1 (ps_cons q2 (ps_cons trivial ps_nil))))) ?_
  rfl
theorem kg3_run (m e p q : Int) : runF P EG 1 4 [.int .i64 m, .int .i64 e, .int .i64 p, .int .i64 q] (.b false :: (.b false :: (.b false :: (.b true :: [])))) =
  some (.bool true,
    [i2P [.int .i64 m, .int .i64 e],
     (!(mB m e)) = false,
     (decide (p < -1073741824)) = false,
     (decide (p > q)) = false,
     (decide (q > 4294967296)) = true,
     wakesP []]) := by kernel_rfl
theorem kg3_leaf (m e p q : Int) (hm : I64 m) (he : I64 e) (hp : I64 p) (hq : I64 q) (q0 : (mB m e) = true) (q1 : (decide (p < -1073741824)) = false) (q2 : (decide (p > q)) = false) (q3 : (decide (q > 4294967296)) = true) : Gives P 4 #[.int .i64 m, .int .i64 e, .int .i64 p, .int .i64 q] (.bool true) := by
  have _u := And.intro hm (And.intro he (And.intro hp hq))
  have R := kg3_run m e p q
  refine gives_of_run mo R (ps_cons ⟨hm, he⟩ (ps_cons (neg_f q0) (ps_cons q1 (ps_cons q2 (ps_cons q3 (ps_cons trivial ps_nil)))))) ?_
  rfl
theorem kg4_run (m e p q : Int) : runF P EG 1 4 [.int .i64 m, .int .i64 e, .int .i64 p, .int .i64 q] (.b false :: (.b false :: (.b false :: (.b false :: (.b false :: (.b false :: (.b false :: (.lit :: (.b false :: (.b false :: (.b true :: (.b true :: (.b true :: []))))))))))))) =
  some (.bool true,
    [i2P [.int .i64 m, .int .i64 e],
     (!(mB m e)) = false,
     (decide (p < -1073741824)) = false,
     (decide (p > q)) = false,
     (decide (q > 4294967296)) = false,
     i3P [.int .i64 m, .int .i64 e, .int .i64 p],
     i3P [.int .i64 m, .int .i64 e, .int .i64 q],
     i3P [.int .i64 0, .int .i64 e, .int .i64 p],
     (gpE m e p != 0) = false,
     (gpE m e q != 0) = false,
     (gpE 0 e p != 0) = false,
     fineP [ivs [gpI m e p, gpI m e q, gpI 0 e p]],
     (!(fineL [gpI m e p, gpI m e q, gpI 0 e p])) = false,
     (decide ((gpI m e p).lo > (gpI m e q).hi)) = false,
     (IntKind.i64.wrap ((gpI 0 e p).lo - ((gpI m e p).lo)) == m) = true,
     (IntKind.i64.wrap ((gpI 0 e p).hi - ((gpI m e p).hi)) == m) = true,
     (decide (IntKind.i64.wrap ((gpI m e p).hi - ((gpI m e p).lo)) ≤ 256)) = true,
     wakesP []]) := by kernel_rfl
theorem kg4_leaf (m e p q : Int) (hm : I64 m) (he : I64 e) (hp : I64 p) (hq : I64 q) (q0 : (mB m e) = true) (q1 : (decide (p < -1073741824)) = false) (q2 : (decide (p > q)) = false) (q3 : (decide (q > 4294967296)) = false) (q4 : (gpE m e p != 0) = false) (q5 : (gpE m e q != 0) = false) (q6 : (gpE 0 e p != 0) = false) (q7 : (fineL [gpI m e p, gpI m e q, gpI 0 e p]) = true) (q8 : (decide ((gpI m e p).lo > (gpI m e q).hi)) = false) (q9 : (IntKind.i64.wrap ((gpI 0 e p).lo - ((gpI m e p).lo)) == m) = true) (q10 : (IntKind.i64.wrap ((gpI 0 e p).hi - ((gpI m e p).hi)) == m) = true) (q11 : (decide (IntKind.i64.wrap ((gpI m e p).hi - ((gpI m e p).lo)) ≤ 256)) = true) : Gives P 4 #[.int .i64 m, .int .i64 e, .int .i64 p, .int .i64 q] (.bool true) := by
  have _u := And.intro hm (And.intro he (And.intro hp hq))
  have R := kg4_run m e p q
  refine gives_of_run mo R (ps_cons ⟨hm, he⟩ (ps_cons (neg_f q0) (ps_cons q1 (ps_cons q2 (ps_cons q3 (ps_cons ⟨hm, he, hp⟩ (ps_cons ⟨hm, he, hq⟩ (ps_cons ⟨by unfold I64; decide, he, hp⟩ (ps_cons q4 (ps_cons q5 (ps_cons q6 (ps_cons (ivs_ok (by simp)) (ps_cons (neg_f q7) (ps_cons q8 (ps_cons q9 (ps_cons q10 (ps_cons q11 (ps_cons trivial ps_nil)))))))))))))))))) ?_
  rfl
theorem KeplerGap_all (m e p q : Int) (hm : I64 m) (he : I64 e) (hp : I64 p) (hq : I64 q) : Gives P 4 #[.int .i64 m, .int .i64 e, .int .i64 p, .int .i64 q] (.bool true) := by
  cases q0 : (mB m e) with
  | true =>
    cases q1 : (decide (p < -1073741824)) with
    | true =>
      exact kg0_leaf m e p q hm he hp hq q0 q1
    | false =>
      cases q2 : (decide (p > q)) with
      | true =>
        exact kg2_leaf m e p q hm he hp hq q0 q1 q2
      | false =>
        cases q3 : (decide (q > 4294967296)) with
        | true =>
          exact kg3_leaf m e p q hm he hp hq q0 q1 q2 q3
        | false =>
          have q4 : (gpE m e p != 0) = false := (bn (gl q0 (of_decide_eq_false q1) (of_decide_eq_false q2) (of_decide_eq_false q3)).f1)
          have q5 : (gpE m e q != 0) = false := (bn (gl q0 (of_decide_eq_false q1) (of_decide_eq_false q2) (of_decide_eq_false q3)).f2)
          have q6 : (gpE 0 e p != 0) = false := (bn (gl q0 (of_decide_eq_false q1) (of_decide_eq_false q2) (of_decide_eq_false q3)).f3)
          have q7 : (fineL [gpI m e p, gpI m e q, gpI 0 e p]) = true := (gl q0 (of_decide_eq_false q1) (of_decide_eq_false q2) (of_decide_eq_false q3)).f
          have q8 : (decide ((gpI m e p).lo > (gpI m e q).hi)) = false := (decide_eq_false (by have := (gl q0 (of_decide_eq_false q1) (of_decide_eq_false q2) (of_decide_eq_false q3)).r; omega))
          have q9 : (IntKind.i64.wrap ((gpI 0 e p).lo - ((gpI m e p).lo)) == m) = true := (bq (gl q0 (of_decide_eq_false q1) (of_decide_eq_false q2) (of_decide_eq_false q3)).a)
          have q10 : (IntKind.i64.wrap ((gpI 0 e p).hi - ((gpI m e p).hi)) == m) = true := (bq (gl q0 (of_decide_eq_false q1) (of_decide_eq_false q2) (of_decide_eq_false q3)).b)
          have q11 : (decide (IntKind.i64.wrap ((gpI m e p).hi - ((gpI m e p).lo)) ≤ 256)) = true := (decide_eq_true (gl q0 (of_decide_eq_false q1) (of_decide_eq_false q2) (of_decide_eq_false q3)).c)
          exact kg4_leaf m e p q hm he hp hq q0 q1 q2 q3 q4 q5 q6 q7 q8 q9 q10 q11
  | false =>
    exact kg1_leaf m e p q hm he hp hq q0
/-! ### Fuel -/
theorem hv_more {m e side : Int} (h1 : 0 ≤ m) (h2 : m ≤ 3221225472) (e1 : 0 ≤ e) (e2 : e ≤ 966367641) (hs : side = -1 ∨ side = 1) {j : Nat} : ∀ {k : Nat}, j ≤ k → k ≤ 31 → (side = -1 → (hv m e side j).1 ≤ (hv m e side k).1) ∧ (side = 1 → (hv m e side k).1 ≤ (hv m e side j).1)
  | 0, hj, _ => by
    obtain rfl : j = 0 := by omega
    exact ⟨fun _ => Int.le_refl _, fun _ => Int.le_refl _⟩
  | k + 1, hj, hk => by
    rcases Nat.lt_or_ge k j with h | h
    · obtain rfl : j = k + 1 := by omega
      exact ⟨fun _ => Int.le_refl _, fun _ => Int.le_refl _⟩
    · have a := hv_more h1 h2 e1 e2 hs (j := j) h (by omega)
      have b := further h1 h2 e1 e2 hs (k := k) hk
      exact ⟨fun g => Int.le_trans (a.1 g) (b.1 g), fun g => Int.le_trans (b.2 g) (a.2 g)⟩
structure Fl (m e l k : Int) : Prop where
  a : holdsI (soI m e l) (soI m e k) = true
  b : holdsI (soI m e k) (soI m e 40) = true
  n : ¬ soN m e k < soN m e l
  e1 : soE m e 40 = 0
  e2 : nrE m e = 0
  w : ¬ IntKind.i64.wrap ((soI m e 40).hi - ((soI m e 40).lo)) > 1202
  s : k ≥ 31 → soI m e k = soI m e 40
  i1 : I64 (IntKind.i64.wrap ((soI m e 40).lo + 1))
  i2 : I64 (soI m e 40).lo
  b1 : beB m e (IntKind.i64.wrap ((soI m e 40).lo + 1)) = false
  b2 : beB m e ((soI m e 40).lo) = true
  p1 : IntKind.i64.wrap (nrP m e - (nrR m e)) ≤ (soI m e 40).lo
  p2 : IntKind.i64.wrap (nrP m e + (nrR m e)) ≥ (soI m e 40).hi
  p3 : nrR m e ≤ 601
  p4 : (soI m e 40).lo < nrP m e
  p5 : nrP m e < (soI m e 40).hi
theorem sg_n {m e p : Int} (h : ¬ sg m e p = -1) : ¬ sg m e p < 0 := by
  have r := sg_three m e p
  omega
theorem so_fine {m e : Int} (h : mB m e = true) {j : Nat} (hj : j ≤ 31) : fine ⟨(hv m e (-1) j).1, (hv m e 1 j).1, false⟩ = true := by
  have a := mB_iff.1 h
  have e := ends a.1 a.2.1 a.2.2.1 a.2.2.2 hj hj
  have l := hv_facts a.1 a.2.1 a.2.2.1 a.2.2.2 (.inl rfl) j hj
  have u := hv_facts a.1 a.2.1 a.2.2.1 a.2.2.2 (.inr rfl) j hj
  have l1 := l.a1
  have u2 := u.a2
  exact fine_iff.2 ⟨rfl, by show _ ≤ (hv m _ (-1) j).1; omega, by show (hv m _ (-1) j).1 ≤ (hv m _ 1 j).1; omega, by show (hv m _ 1 j).1 ≤ _; omega⟩
theorem so_in {m e : Int} (h : mB m e = true) {j k : Nat} (hjk : j ≤ k) (hk : k ≤ 31) : holdsI ⟨(hv m e (-1) j).1, (hv m e 1 j).1, false⟩ ⟨(hv m e (-1) k).1, (hv m e 1 k).1, false⟩ = true := by
  have a := mB_iff.1 h
  have x := (hv_more a.1 a.2.1 a.2.2.1 a.2.2.2 (.inl rfl) hjk hk).1 rfl
  have y := (hv_more a.1 a.2.1 a.2.2.1 a.2.2.2 (.inr rfl) hjk hk).2 rfl
  unfold holdsI
  rw [fine2.2 ⟨so_fine h (j := j) (by omega), so_fine h hk⟩, decide_eq_true x, decide_eq_true y]; rfl
theorem fl {m e l k : Int} (h : mB m e = true) (h1 : ¬ l < 0) (h2 : ¬ k < l) (h3 : ¬ k > 40) : Fl m e l k := by
  have a := mB_iff.1 h
  have L := so h (f := l) (fB_iff.2 ⟨by omega, by omega⟩)
  have K := so h (f := k) (fB_iff.2 ⟨by omega, by omega⟩)
  have F := so40 h
  have N := nr h
  have w := narrow a.1 a.2.1 a.2.2.1 a.2.2.2
  have lk : (mn l 31).toNat ≤ (mn k 31).toNat := by unfold mn; split <;> split <;> omega
  have l1 := F.l.a1
  have l2 := F.l.a2
  have u1 := F.u.a1
  have u2 := F.u.a2
  have fd : (hv m e (-1) 31).2 - (hv m e (-1) 31).1 = 1 := F.l.d
  have lb := F.l.b1
  have lb2 := F.l.b2
  have ei : (soI m e 40).lo = (hv m e (-1) 31).1 := by rw [F.i]
  have eu : (soI m e 40).hi = (hv m e 1 31).1 := by rw [F.i]
  have e1' : IntKind.i64.wrap ((soI m e 40).lo + 1) = (hv m e (-1) 31).2 := by rw [ei, Iv.wr (by omega) (by omega)]; omega
  have rr : nrR m e = mx ((hv m e 1 31).1 - nrP m e) (nrP m e - (hv m e (-1) 31).1) := by rw [N.r, N.p]
  have pp := N.p
  have m1 := mx_le.1 (Int.le_of_eq rr.symm)
  have m2 : nrR m e ≤ 601 := by rw [rr]; exact mx_le.2 ⟨by omega, by omega⟩
  refine ⟨?_, ?_, ?_, ?_, N.e, ?_, ?_, ?_, ?_, ?_, ?_, ?_, ?_, m2, by omega, by omega⟩
  · rw [L.i, K.i]; exact so_in h lk K.k31
  · rw [K.i, F.i]; exact so_in h K.k31 (Nat.le_refl _)
  · rw [L.n, K.n]; omega
  · rw [F.ee]; rfl
  · rw [ei, eu, Iv.wr (by omega) (by omega)]; omega
  · intro hk
    have : (mn k 31).toNat = 31 := by unfold mn; split <;> omega
    rw [K.i, F.i, this]
  · rw [e1']; unfold I64; omega
  · rw [ei]; unfold I64; omega
  · rw [e1']
    obtain ⟨_, g, ge⟩ := gp_of h lb lb2
    unfold beB
    rw [ge, g]
    show (true && decide (sg m e (hv m e (-1) 31).2 < 0)) = false
    rw [Bool.true_and, decide_eq_false (sg_n F.l.n)]
  · rw [ei]
    obtain ⟨_, g, ge⟩ := gp_of h l1 l2
    unfold beB
    rw [ge, g]
    show (true && decide (sg m e (hv m e (-1) 31).1 < 0)) = true
    rw [Bool.true_and, F.l.s]; rfl
  · rw [ei, Iv.wr (by omega) (by omega)]; omega
  · rw [eu, Iv.wr (by omega) (by omega)]; omega
theorem kf0_run (m e l k : Int) : runF P EG 1 3 [.int .i64 m, .int .i64 e, .int .i64 l, .int .i64 k] (.b false :: (.b true :: [])) =
  some (.bool true,
    [i2P [.int .i64 m, .int .i64 e],
     (!(mB m e)) = false,
     (decide (l < 0)) = true,
     wakesP []]) := by kernel_rfl
theorem kf0_leaf (m e l k : Int) (hm : I64 m) (he : I64 e) (hl : I64 l) (hk : I64 k) (q0 : (mB m e) = true) (q1 : (decide (l < 0)) = true) : Gives P 3 #[.int .i64 m, .int .i64 e, .int .i64 l, .int .i64 k] (.bool true) := by
  have _u := And.intro hm (And.intro he (And.intro hl hk))
  have R := kf0_run m e l k
  refine gives_of_run mo R (ps_cons ⟨hm, he⟩ (ps_cons (neg_f q0) (ps_cons q1 (ps_cons trivial ps_nil)))) ?_
  rfl
theorem kf1_run (m e l k : Int) : runF P EG 1 3 [.int .i64 m, .int .i64 e, .int .i64 l, .int .i64 k] (.b true :: []) =
  some (.bool true,
    [i2P [.int .i64 m, .int .i64 e],
     (!(mB m e)) = true,
     wakesP []]) := by kernel_rfl
theorem kf1_leaf (m e l k : Int) (hm : I64 m) (he : I64 e) (hl : I64 l) (hk : I64 k) (q0 : (mB m e) = false) : Gives P 3 #[.int .i64 m, .int .i64 e, .int .i64 l, .int .i64 k] (.bool true) := by
  have _u := And.intro hm (And.intro he (And.intro hl hk))
  have R := kf1_run m e l k
  refine gives_of_run mo R (ps_cons ⟨hm, he⟩ (ps_cons (neg_t q0) (ps_cons trivial ps_nil))) ?_
  rfl
theorem kf2_run (m e l k : Int) : runF P EG 1 3 [.int .i64 m, .int .i64 e, .int .i64 l, .int .i64 k] (.b false :: (.b false :: (.b true :: []))) =
  some (.bool true,
    [i2P [.int .i64 m, .int .i64 e],
     (!(mB m e)) = false,
     (decide (l < 0)) = false,
     (decide (k < l)) = true,
     wakesP []]) := by kernel_rfl
theorem kf2_leaf (m e l k : Int) (hm : I64 m) (he : I64 e) (hl : I64 l) (hk : I64 k) (q0 : (mB m e) = true) (q1 : (decide (l < 0)) = false) (q2 : (decide (k < l)) = true) : Gives P 3 #[.int .i64 m, .int .i64 e, .int .i64 l, .int .i64 k] (.bool true) := by
  have _u := And.intro hm (And.intro he (And.intro hl hk))
  have R := kf2_run m e l k
  refine gives_of_run mo R (ps_cons ⟨hm, he⟩ (ps_cons (neg_f q0) (ps_cons q1 (ps_cons q2 (ps_cons trivial ps_nil))))) ?_
  rfl
theorem kf3_run (m e l k : Int) : runF P EG 1 3 [.int .i64 m, .int .i64 e, .int .i64 l, .int .i64 k] (.b false :: (.b false :: (.b false :: (.b true :: [])))) =
  some (.bool true,
    [i2P [.int .i64 m, .int .i64 e],
     (!(mB m e)) = false,
     (decide (l < 0)) = false,
     (decide (k < l)) = false,
     (decide (k > 40)) = true,
     wakesP []]) := by kernel_rfl
theorem kf3_leaf (m e l k : Int) (hm : I64 m) (he : I64 e) (hl : I64 l) (hk : I64 k) (q0 : (mB m e) = true) (q1 : (decide (l < 0)) = false) (q2 : (decide (k < l)) = false) (q3 : (decide (k > 40)) = true) : Gives P 3 #[.int .i64 m, .int .i64 e, .int .i64 l, .int .i64 k] (.bool true) := by
  have _u := And.intro hm (And.intro he (And.intro hl hk))
  have R := kf3_run m e l k
  refine gives_of_run mo R (ps_cons ⟨hm, he⟩ (ps_cons (neg_f q0) (ps_cons q1 (ps_cons q2 (ps_cons q3 (ps_cons trivial ps_nil)))))) ?_
  rfl
theorem kf4_run (m e l k : Int) : runF P EG 1 3 [.int .i64 m, .int .i64 e, .int .i64 l, .int .i64 k] (.b false :: (.b false :: (.b false :: (.b false :: (.b false :: (.b false :: (.b false :: (.b false :: (.b false :: (.b false :: (.b true :: (.b false :: (.b true :: (.b true :: (.b true :: (.b true :: (.b true :: (.b true :: (.b true :: []))))))))))))))))))) =
  some (.bool true,
    [i2P [.int .i64 m, .int .i64 e],
     (!(mB m e)) = false,
     (decide (l < 0)) = false,
     (decide (k < l)) = false,
     (decide (k > 40)) = false,
     i3P [.int .i64 m, .int .i64 e, .int .i64 l],
     i3P [.int .i64 m, .int .i64 e, .int .i64 k],
     i3P [.int .i64 m, .int .i64 e, .int .i64 40],
     i2P [.int .i64 m, .int .i64 e],
     iP2 [I (soI m e l), I (soI m e k)],
     (!(holdsI (soI m e l) (soI m e k))) = false,
     iP2 [I (soI m e k), I (soI m e 40)],
     (!(holdsI (soI m e k) (soI m e 40))) = false,
     (decide (soN m e k < soN m e l)) = false,
     (soE m e 40 != 0) = false,
     (nrE m e != 0) = false,
     (decide (IntKind.i64.wrap ((soI m e 40).hi - ((soI m e 40).lo)) > 1202)) = false,
     (decide (k ≥ 31)) = true,
     (!(((soI m e k).lo == (soI m e 40).lo) && (((soI m e k).hi == (soI m e 40).hi) && (((soI m e k).bad) == ((soI m e 40).bad))))) = false,
     i3P [.int .i64 m, .int .i64 e, .int .i64 (IntKind.i64.wrap ((soI m e 40).lo + 1))],
     (!(beB m e (IntKind.i64.wrap ((soI m e 40).lo + 1)))) = true,
     i3P [.int .i64 m, .int .i64 e, .int .i64 ((soI m e 40).lo)],
     (beB m e ((soI m e 40).lo)) = true,
     (decide (IntKind.i64.wrap (nrP m e - (nrR m e)) ≤ (soI m e 40).lo)) = true,
     (decide (IntKind.i64.wrap (nrP m e + (nrR m e)) ≥ (soI m e 40).hi)) = true,
     (decide (nrR m e ≤ 601)) = true,
     (decide ((soI m e 40).lo < nrP m e)) = true,
     (decide (nrP m e < (soI m e 40).hi)) = true,
     wakesP []]) := by kernel_rfl
theorem kf4_leaf (m e l k : Int) (hm : I64 m) (he : I64 e) (hl : I64 l) (hk : I64 k) (q0 : (mB m e) = true) (q1 : (decide (l < 0)) = false) (q2 : (decide (k < l)) = false) (q3 : (decide (k > 40)) = false) (q4 : (holdsI (soI m e l) (soI m e k)) = true) (q5 : (holdsI (soI m e k) (soI m e 40)) = true) (q6 : (decide (soN m e k < soN m e l)) = false) (q7 : (soE m e 40 != 0) = false) (q8 : (nrE m e != 0) = false) (q9 : (decide (IntKind.i64.wrap ((soI m e 40).hi - ((soI m e 40).lo)) > 1202)) = false) (q10 : (decide (k ≥ 31)) = true) (q11 : (((soI m e k).lo == (soI m e 40).lo) && (((soI m e k).hi == (soI m e 40).hi) && (((soI m e k).bad) == ((soI m e 40).bad)))) = true) (q12 : (beB m e (IntKind.i64.wrap ((soI m e 40).lo + 1))) = false) (q13 : (beB m e ((soI m e 40).lo)) = true) (q14 : (decide (IntKind.i64.wrap (nrP m e - (nrR m e)) ≤ (soI m e 40).lo)) = true) (q15 : (decide (IntKind.i64.wrap (nrP m e + (nrR m e)) ≥ (soI m e 40).hi)) = true) (q16 : (decide (nrR m e ≤ 601)) = true) (q17 : (decide ((soI m e 40).lo < nrP m e)) = true) (q18 : (decide (nrP m e < (soI m e 40).hi)) = true) : Gives P 3 #[.int .i64 m, .int .i64 e, .int .i64 l, .int .i64 k] (.bool true) := by
  have _u := And.intro hm (And.intro he (And.intro hl hk))
  have R := kf4_run m e l k
  refine gives_of_run mo R (ps_cons ⟨hm, he⟩ (ps_cons (neg_f q0) (ps_cons q1 (ps_cons q2 (ps_cons q3 (ps_cons ⟨hm, he, hl⟩ (ps_cons ⟨hm, he, hk⟩ (ps_cons ⟨hm, he, by unfold I64; decide⟩ (ps_cons ⟨hm, he⟩ (ps_cons ⟨⟨_, rfl⟩, _, rfl⟩ (ps_cons (neg_f q4) (ps_cons ⟨⟨_, rfl⟩, _, rfl⟩ (ps_cons (neg_f q5) (ps_cons q6 (ps_cons q7 (ps_cons q8 (ps_cons q9 (ps_cons q10 (ps_cons (neg_f q11) (ps_cons ⟨hm, he, (fl q0 (of_decide_eq_false q1) (of_decide_eq_false q2) (of_decide_eq_false q3)).i1⟩ (ps_cons (neg_t q12) (ps_cons ⟨hm, he, (fl q0 (of_decide_eq_false q1) (of_decide_eq_false q2) (of_decide_eq_false q3)).i2⟩ (ps_cons q13 (ps_cons q14 (ps_cons q15 (ps_cons q16 (ps_cons q17 (ps_cons q18 (ps_cons trivial ps_nil))))))))))))))))))))))))))))) ?_
  rfl
theorem kf5_run (m e l k : Int) : runF P EG 1 3 [.int .i64 m, .int .i64 e, .int .i64 l, .int .i64 k] (.b false :: (.b false :: (.b false :: (.b false :: (.b false :: (.b false :: (.b false :: (.b false :: (.b false :: (.b false :: (.b false :: (.lit :: (.b true :: (.b true :: (.b true :: (.b true :: (.b true :: (.b true :: (.b true :: []))))))))))))))))))) =
  some (.bool true,
    [i2P [.int .i64 m, .int .i64 e],
     (!(mB m e)) = false,
     (decide (l < 0)) = false,
     (decide (k < l)) = false,
     (decide (k > 40)) = false,
     i3P [.int .i64 m, .int .i64 e, .int .i64 l],
     i3P [.int .i64 m, .int .i64 e, .int .i64 k],
     i3P [.int .i64 m, .int .i64 e, .int .i64 40],
     i2P [.int .i64 m, .int .i64 e],
     iP2 [I (soI m e l), I (soI m e k)],
     (!(holdsI (soI m e l) (soI m e k))) = false,
     iP2 [I (soI m e k), I (soI m e 40)],
     (!(holdsI (soI m e k) (soI m e 40))) = false,
     (decide (soN m e k < soN m e l)) = false,
     (soE m e 40 != 0) = false,
     (nrE m e != 0) = false,
     (decide (IntKind.i64.wrap ((soI m e 40).hi - ((soI m e 40).lo)) > 1202)) = false,
     (decide (k ≥ 31)) = false,
     i3P [.int .i64 m, .int .i64 e, .int .i64 (IntKind.i64.wrap ((soI m e 40).lo + 1))],
     (!(beB m e (IntKind.i64.wrap ((soI m e 40).lo + 1)))) = true,
     i3P [.int .i64 m, .int .i64 e, .int .i64 ((soI m e 40).lo)],
     (beB m e ((soI m e 40).lo)) = true,
     (decide (IntKind.i64.wrap (nrP m e - (nrR m e)) ≤ (soI m e 40).lo)) = true,
     (decide (IntKind.i64.wrap (nrP m e + (nrR m e)) ≥ (soI m e 40).hi)) = true,
     (decide (nrR m e ≤ 601)) = true,
     (decide ((soI m e 40).lo < nrP m e)) = true,
     (decide (nrP m e < (soI m e 40).hi)) = true,
     wakesP []]) := by kernel_rfl
theorem kf5_leaf (m e l k : Int) (hm : I64 m) (he : I64 e) (hl : I64 l) (hk : I64 k) (q0 : (mB m e) = true) (q1 : (decide (l < 0)) = false) (q2 : (decide (k < l)) = false) (q3 : (decide (k > 40)) = false) (q4 : (holdsI (soI m e l) (soI m e k)) = true) (q5 : (holdsI (soI m e k) (soI m e 40)) = true) (q6 : (decide (soN m e k < soN m e l)) = false) (q7 : (soE m e 40 != 0) = false) (q8 : (nrE m e != 0) = false) (q9 : (decide (IntKind.i64.wrap ((soI m e 40).hi - ((soI m e 40).lo)) > 1202)) = false) (q10 : (decide (k ≥ 31)) = false) (q11 : (beB m e (IntKind.i64.wrap ((soI m e 40).lo + 1))) = false) (q12 : (beB m e ((soI m e 40).lo)) = true) (q13 : (decide (IntKind.i64.wrap (nrP m e - (nrR m e)) ≤ (soI m e 40).lo)) = true) (q14 : (decide (IntKind.i64.wrap (nrP m e + (nrR m e)) ≥ (soI m e 40).hi)) = true) (q15 : (decide (nrR m e ≤ 601)) = true) (q16 : (decide ((soI m e 40).lo < nrP m e)) = true) (q17 : (decide (nrP m e < (soI m e 40).hi)) = true) : Gives P 3 #[.int .i64 m, .int .i64 e, .int .i64 l, .int .i64 k] (.bool true) := by
  have _u := And.intro hm (And.intro he (And.intro hl hk))
  have R := kf5_run m e l k
  refine gives_of_run mo R (ps_cons ⟨hm, he⟩ (ps_cons (neg_f q0) (ps_cons q1 (ps_cons q2 (ps_cons q3 (ps_cons ⟨hm, he, hl⟩ (ps_cons ⟨hm, he, hk⟩ (ps_cons ⟨hm, he, by unfold I64; decide⟩ (ps_cons ⟨hm, he⟩ (ps_cons ⟨⟨_, rfl⟩, _, rfl⟩ (ps_cons (neg_f q4) (ps_cons ⟨⟨_, rfl⟩, _, rfl⟩ (ps_cons (neg_f q5) (ps_cons q6 (ps_cons q7 (ps_cons q8 (ps_cons q9 (ps_cons q10 (ps_cons ⟨hm, he, (fl q0 (of_decide_eq_false q1) (of_decide_eq_false q2) (of_decide_eq_false q3)).i1⟩ (ps_cons (neg_t q11) (ps_cons ⟨hm, he, (fl q0 (of_decide_eq_false q1) (of_decide_eq_false q2) (of_decide_eq_false q3)).i2⟩ (ps_cons q12 (ps_cons q13 (ps_cons q14 (ps_cons q15 (ps_cons q16 (ps_cons q17 (ps_cons trivial ps_nil)))))))))))))))))))))))))))) ?_
  rfl
theorem KeplerFuel_all (m e l k : Int) (hm : I64 m) (he : I64 e) (hl : I64 l) (hk : I64 k) : Gives P 3 #[.int .i64 m, .int .i64 e, .int .i64 l, .int .i64 k] (.bool true) := by
  cases q0 : (mB m e) with
  | true =>
    cases q1 : (decide (l < 0)) with
    | true =>
      exact kf0_leaf m e l k hm he hl hk q0 q1
    | false =>
      cases q2 : (decide (k < l)) with
      | true =>
        exact kf2_leaf m e l k hm he hl hk q0 q1 q2
      | false =>
        cases q3 : (decide (k > 40)) with
        | true =>
          exact kf3_leaf m e l k hm he hl hk q0 q1 q2 q3
        | false =>
          have q4 : (holdsI (soI m e l) (soI m e k)) = true := (fl q0 (of_decide_eq_false q1) (of_decide_eq_false q2) (of_decide_eq_false q3)).a
          have q5 : (holdsI (soI m e k) (soI m e 40)) = true := (fl q0 (of_decide_eq_false q1) (of_decide_eq_false q2) (of_decide_eq_false q3)).b
          have q6 : (decide (soN m e k < soN m e l)) = false := (decide_eq_false (fl q0 (of_decide_eq_false q1) (of_decide_eq_false q2) (of_decide_eq_false q3)).n)
          have q7 : (soE m e 40 != 0) = false := (bn (fl q0 (of_decide_eq_false q1) (of_decide_eq_false q2) (of_decide_eq_false q3)).e1)
          have q8 : (nrE m e != 0) = false := (bn (fl q0 (of_decide_eq_false q1) (of_decide_eq_false q2) (of_decide_eq_false q3)).e2)
          have q9 : (decide (IntKind.i64.wrap ((soI m e 40).hi - ((soI m e 40).lo)) > 1202)) = false := (decide_eq_false (fl q0 (of_decide_eq_false q1) (of_decide_eq_false q2) (of_decide_eq_false q3)).w)
          cases q10 : (decide (k ≥ 31)) with
          | true =>
            have q11 : (((soI m e k).lo == (soI m e 40).lo) && (((soI m e k).hi == (soI m e 40).hi) && (((soI m e k).bad) == ((soI m e 40).bad)))) = true := (iv_eq ((fl q0 (of_decide_eq_false q1) (of_decide_eq_false q2) (of_decide_eq_false q3)).s (of_decide_eq_true q10)))
            have q12 : (beB m e (IntKind.i64.wrap ((soI m e 40).lo + 1))) = false := (fl q0 (of_decide_eq_false q1) (of_decide_eq_false q2) (of_decide_eq_false q3)).b1
            have q13 : (beB m e ((soI m e 40).lo)) = true := (fl q0 (of_decide_eq_false q1) (of_decide_eq_false q2) (of_decide_eq_false q3)).b2
            have q14 : (decide (IntKind.i64.wrap (nrP m e - (nrR m e)) ≤ (soI m e 40).lo)) = true := (decide_eq_true (fl q0 (of_decide_eq_false q1) (of_decide_eq_false q2) (of_decide_eq_false q3)).p1)
            have q15 : (decide (IntKind.i64.wrap (nrP m e + (nrR m e)) ≥ (soI m e 40).hi)) = true := (decide_eq_true (fl q0 (of_decide_eq_false q1) (of_decide_eq_false q2) (of_decide_eq_false q3)).p2)
            have q16 : (decide (nrR m e ≤ 601)) = true := (decide_eq_true (fl q0 (of_decide_eq_false q1) (of_decide_eq_false q2) (of_decide_eq_false q3)).p3)
            have q17 : (decide ((soI m e 40).lo < nrP m e)) = true := (decide_eq_true (fl q0 (of_decide_eq_false q1) (of_decide_eq_false q2) (of_decide_eq_false q3)).p4)
            have q18 : (decide (nrP m e < (soI m e 40).hi)) = true := (decide_eq_true (fl q0 (of_decide_eq_false q1) (of_decide_eq_false q2) (of_decide_eq_false q3)).p5)
            exact kf4_leaf m e l k hm he hl hk q0 q1 q2 q3 q4 q5 q6 q7 q8 q9 q10 q11 q12 q13 q14 q15 q16 q17 q18
          | false =>
            have q11 : (beB m e (IntKind.i64.wrap ((soI m e 40).lo + 1))) = false := (fl q0 (of_decide_eq_false q1) (of_decide_eq_false q2) (of_decide_eq_false q3)).b1
            have q12 : (beB m e ((soI m e 40).lo)) = true := (fl q0 (of_decide_eq_false q1) (of_decide_eq_false q2) (of_decide_eq_false q3)).b2
            have q13 : (decide (IntKind.i64.wrap (nrP m e - (nrR m e)) ≤ (soI m e 40).lo)) = true := (decide_eq_true (fl q0 (of_decide_eq_false q1) (of_decide_eq_false q2) (of_decide_eq_false q3)).p1)
            have q14 : (decide (IntKind.i64.wrap (nrP m e + (nrR m e)) ≥ (soI m e 40).hi)) = true := (decide_eq_true (fl q0 (of_decide_eq_false q1) (of_decide_eq_false q2) (of_decide_eq_false q3)).p2)
            have q15 : (decide (nrR m e ≤ 601)) = true := (decide_eq_true (fl q0 (of_decide_eq_false q1) (of_decide_eq_false q2) (of_decide_eq_false q3)).p3)
            have q16 : (decide ((soI m e 40).lo < nrP m e)) = true := (decide_eq_true (fl q0 (of_decide_eq_false q1) (of_decide_eq_false q2) (of_decide_eq_false q3)).p4)
            have q17 : (decide (nrP m e < (soI m e 40).hi)) = true := (decide_eq_true (fl q0 (of_decide_eq_false q1) (of_decide_eq_false q2) (of_decide_eq_false q3)).p5)
            exact kf5_leaf m e l k hm he hl hk q0 q1 q2 q3 q4 q5 q6 q7 q8 q9 q10 q11 q12 q13 q14 q15 q16 q17
  | false =>
    exact kf1_leaf m e l k hm he hl hk q0
end Go.Ke
