/-
 Contracts of gyreref20: gaps, signs, halvings, roots. Printed by keT.py.
-/
import Derived.Test.YtekplphjbngabaaGreatDoorKeF
import Derived.Test.YtekplphjbngabaaGreatDoorRf7
set_option maxRecDepth 100000
namespace Go.Ke
open Go Go.RowKit Go.Sx Go.Nm Go.Wd Go.Qt Go.Iv Go.An Go.Wv Go.Nv Go.Proofs
theorem wi (n : Int) : I64 (IntKind.i64.wrap n) := by
 have e : IntKind.i64.wrap n = if n % 18446744073709551616 ≥ 9223372036854775808 then n % 18446744073709551616 - 18446744073709551616 else n % 18446744073709551616 := by
  simp [IntKind.wrap, IntKind.signed, IntKind.bits]
 rw [e]; unfold I64; split <;> omega
noncomputable def T0 : Env P := ⟨⟨[], []⟩, [], 10, []⟩
theorem rm0_leaf (m e : Int)  (q0 : (decide (m ≥ 0)) = true) (q1 : (decide (m ≤ 3221225472)) = true) (q2 : (decide (e ≥ 0)) = true) : Gives P 57 #[.int .i64 m, .int .i64 e] (.bool (mB m e)) := by
 refine gives_of_run (E := T0) (lv := 1) (ds := (.b true :: (.b true :: (.b true :: [])))) (v := .bool (decide (e ≤ 966367641))) (ps := [(decide (m ≥ 0)) = true, (decide (m ≤ 3221225472)) = true, (decide (e ≥ 0)) = true]) mo (by kernel_rfl) (ps_cons q0 (ps_cons q1 (ps_cons q2 ps_nil))) ?_
 unfold mB
 rw [q0, q1, q2]
 rfl
theorem rm1_leaf (m e : Int)  (q0 : (decide (m ≥ 0)) = false) : Gives P 57 #[.int .i64 m, .int .i64 e] (.bool (mB m e)) := by
 refine gives_of_run (E := T0) (lv := 1) (ds := (.b false :: [])) (v := .bool false) (ps := [(decide (m ≥ 0)) = false]) mo (by kernel_rfl) (ps_cons q0 ps_nil) ?_
 unfold mB
 rw [q0]
 rfl
theorem rm2_leaf (m e : Int)  (q0 : (decide (m ≥ 0)) = true) (q1 : (decide (m ≤ 3221225472)) = false) : Gives P 57 #[.int .i64 m, .int .i64 e] (.bool (mB m e)) := by
 refine gives_of_run (E := T0) (lv := 1) (ds := (.b true :: (.b false :: []))) (v := .bool false) (ps := [(decide (m ≥ 0)) = true, (decide (m ≤ 3221225472)) = false]) mo (by kernel_rfl) (ps_cons q0 (ps_cons q1 ps_nil)) ?_
 unfold mB
 rw [q0, q1]
 rfl
theorem rm3_leaf (m e : Int)  (q0 : (decide (m ≥ 0)) = true) (q1 : (decide (m ≤ 3221225472)) = true) (q2 : (decide (e ≥ 0)) = false) : Gives P 57 #[.int .i64 m, .int .i64 e] (.bool (mB m e)) := by
 refine gives_of_run (E := T0) (lv := 1) (ds := (.b true :: (.b true :: (.b false :: [])))) (v := .bool false) (ps := [(decide (m ≥ 0)) = true, (decide (m ≤ 3221225472)) = true, (decide (e ≥ 0)) = false]) mo (by kernel_rfl) (ps_cons q0 (ps_cons q1 (ps_cons q2 ps_nil))) ?_
 unfold mB
 rw [q0, q1, q2]
 rfl
theorem rm_gives (args : List Value) (h : i2P args) : Gives P 57 args.toArray ((mbV) args) := by
 unfold i2P at h
 split at h
 · rename_i m e
   clear h
   show Gives P _ #[.int .i64 m, .int .i64 e] (.bool (mB m e))
   cases q0 : (decide (m ≥ 0)) with
   | true =>
    cases q1 : (decide (m ≤ 3221225472)) with
    | true =>
     cases q2 : (decide (e ≥ 0)) with
     | true =>
      exact rm0_leaf m e  q0 q1 q2
     | false =>
      exact rm3_leaf m e  q0 q1 q2
    | false =>
     exact rm2_leaf m e  q0 q1
   | false =>
    exact rm1_leaf m e  q0
 · exact h.elim
noncomputable def rMay : Ctr P := ⟨57, i2P, mbV, rm_gives⟩
theorem and1 (n : Int) : ((BitVec.ofInt 64 n &&& BitVec.ofInt 64 1).toNat : Int) = n % 2 := by
 have h : (BitVec.ofInt 64 n &&& BitVec.ofInt 64 1).toNat = (BitVec.ofInt 64 n).toNat % 2 := by
  rw [BitVec.toNat_and]
  have : (BitVec.ofInt 64 1).toNat = 1 := by decide
  rw [this, Nat.and_one_is_mod]
 rw [h, BitVec.toNat_ofInt]
 omega
def haV1 : List Value → Value
 | [.int _ n] => .int .i64 (n.fdiv (2 ^ 1))
 | _ => undef
theorem half_run (n : Int) : runF P T0 1 109 [.int .i64 n] [] = some (.int .i64 (IntKind.i64.wrap ((IntKind.i64.wrap (n - (IntKind.i64.wrap ↑(BitVec.ofInt 64 n &&& BitVec.ofInt 64 1).toNat))).tdiv 2)), []) := by kernel_rfl
theorem half_eq {n : Int} (hn : I64 n) : (.int .i64 (IntKind.i64.wrap ((IntKind.i64.wrap (n - (IntKind.i64.wrap ↑(BitVec.ofInt 64 n &&& BitVec.ofInt 64 1).toNat))).tdiv 2)) : Value) = .int .i64 (n.fdiv (2 ^ 1)) := by
 unfold I64 at hn
 rw [and1, Iv.wr (n := n % 2) (by omega) (by omega), Iv.wr (n := n - n % 2) (by omega) (by omega)]
 have e : n - n % 2 = n / 2 * 2 := by omega
 rw [e, Int.mul_tdiv_cancel _ (by decide), Iv.wr (by omega) (by omega), Int.fdiv_eq_ediv_of_nonneg _ (by decide)]
 rfl
theorem half_gives (args : List Value) (h : nP1 args) : Gives P 109 args.toArray (haV1 args) := by
 unfold nP1 at h
 split at h
 · exact gives_of_run mo (half_run _) ps_nil (half_eq h)
 · exact h.elim
noncomputable def rHalf : Ctr P := ⟨109, nP1, haV1, half_gives⟩
noncomputable def TG : Env P := ⟨⟨[rMay, R7.cSin7] ++ R5.rf5C, [rFine]⟩, [], 20, []⟩
theorem rg0_leaf (m e p : Int) (hm : I64 m) (he : I64 e) (hp : I64 p) (q0 : (mB m e) = true) (q1 : (decide (p < -1073741824)) = true) : Gives P 161 #[.int .i64 m, .int .i64 e, .int .i64 p] (.tuple #[I (gpI m e p), .int .i64 (gpE m e p)]) := by
 have _u := And.intro hm (And.intro he hp)
 refine gives_of_run (E := TG) (lv := 1) (ds := (.b false :: (.b true :: []))) (v := .tuple #[I (⟨0, 0, false⟩), .int .i64 2]) (ps := [i2P [.int .i64 m, .int .i64 e], (!(mB m e)) = false, (decide (p < -1073741824)) = true]) mo (by kernel_rfl) (ps_cons ⟨hm, he⟩ (ps_cons (neg_f q0) (ps_cons q1 ps_nil))) ?_
 unfold gpI gpE pB
 rw [q0, decide_eq_false (show ¬ p ≥ -1073741824 by have := of_decide_eq_true q1; omega)]
 rfl
theorem rg1_leaf (m e p : Int) (hm : I64 m) (he : I64 e) (hp : I64 p) (q0 : (mB m e) = false) : Gives P 161 #[.int .i64 m, .int .i64 e, .int .i64 p] (.tuple #[I (gpI m e p), .int .i64 (gpE m e p)]) := by
 have _u := And.intro hm (And.intro he hp)
 refine gives_of_run (E := TG) (lv := 1) (ds := (.b true :: [])) (v := .tuple #[I (⟨0, 0, false⟩), .int .i64 2]) (ps := [i2P [.int .i64 m, .int .i64 e], (!(mB m e)) = true]) mo (by kernel_rfl) (ps_cons ⟨hm, he⟩ (ps_cons (neg_t q0) ps_nil)) ?_
 unfold gpI gpE pB
 rw [q0]
 rfl
theorem rg2_leaf (m e p : Int) (hm : I64 m) (he : I64 e) (hp : I64 p) (q0 : (mB m e) = true) (q1 : (decide (p < -1073741824)) = false) (q2 : (decide (p > 4294967296)) = true) : Gives P 161 #[.int .i64 m, .int .i64 e, .int .i64 p] (.tuple #[I (gpI m e p), .int .i64 (gpE m e p)]) := by
 have _u := And.intro hm (And.intro he hp)
 refine gives_of_run (E := TG) (lv := 1) (ds := (.b false :: (.b false :: (.b true :: [])))) (v := .tuple #[I (⟨0, 0, false⟩), .int .i64 2]) (ps := [i2P [.int .i64 m, .int .i64 e], (!(mB m e)) = false, (decide (p < -1073741824)) = false, (decide (p > 4294967296)) = true]) mo (by kernel_rfl) (ps_cons ⟨hm, he⟩ (ps_cons (neg_f q0) (ps_cons q1 (ps_cons q2 ps_nil)))) ?_
 unfold gpI gpE pB
 rw [q0, decide_eq_true (show p ≥ -1073741824 by have := of_decide_eq_false q1; omega), decide_eq_false (show ¬ p ≤ 4294967296 by have := of_decide_eq_true q2; omega)]
 rfl
theorem rg3_leaf (m e p : Int) (hm : I64 m) (he : I64 e) (hp : I64 p) (q0 : (mB m e) = true) (q1 : (decide (p < -1073741824)) = false) (q2 : (decide (p > 4294967296)) = false) : Gives P 161 #[.int .i64 m, .int .i64 e, .int .i64 p] (.tuple #[I (gpI m e p), .int .i64 (gpE m e p)]) := by
 have _u := And.intro hm (And.intro he hp)
 refine gives_of_run (E := TG) (lv := 1) (ds := (.b false :: (.b false :: (.b false :: [])))) (v := .tuple #[I (subI (subI (pointI p) (mulI (pointI e) (waveI false (pointI p)))) (pointI m)), .int .i64 0]) (ps := [i2P [.int .i64 m, .int .i64 e], (!(mB m e)) = false, (decide (p < -1073741824)) = false, (decide (p > 4294967296)) = false, nP1 [.int .i64 e], nP1 [.int .i64 p], R7.sc7P [I (pointI p)], iP2 [I (pointI e), I (waveI false (pointI p))], nP1 [.int .i64 p], iP2 [I (pointI p), I (mulI (pointI e) (waveI false (pointI p)))], nP1 [.int .i64 m], iP2 [I (subI (pointI p) (mulI (pointI e) (waveI false (pointI p)))), I (pointI m)]]) mo (by kernel_rfl) (ps_cons ⟨hm, he⟩ (ps_cons (neg_f q0) (ps_cons q1 (ps_cons q2 (ps_cons he (ps_cons hp (ps_cons ⟨_, rfl, (point_far (by have := of_decide_eq_false q1; omega) (by have := of_decide_eq_false q2; omega))⟩ (ps_cons ⟨⟨_, rfl⟩, _, rfl⟩ (ps_cons hp (ps_cons ⟨⟨_, rfl⟩, _, rfl⟩ (ps_cons hm (ps_cons ⟨⟨_, rfl⟩, _, rfl⟩ ps_nil)))))))))))) ?_
 unfold gpI gpE pB
 rw [q0, decide_eq_true (show p ≥ -1073741824 by have := of_decide_eq_false q1; omega), decide_eq_true (show p ≤ 4294967296 by have := of_decide_eq_false q2; omega)]
 rfl
theorem rg_gives (args : List Value) (h : i3P args) : Gives P 161 args.toArray ((gpV) args) := by
 unfold i3P at h
 split at h
 · rename_i m e p
   obtain ⟨hm, he, hp⟩ := h
   show Gives P _ #[.int .i64 m, .int .i64 e, .int .i64 p] (.tuple #[I (gpI m e p), .int .i64 (gpE m e p)])
   cases q0 : (mB m e) with
   | true =>
    cases q1 : (decide (p < -1073741824)) with
    | true =>
     exact rg0_leaf m e p hm he hp q0 q1
    | false =>
     cases q2 : (decide (p > 4294967296)) with
     | true =>
      exact rg2_leaf m e p hm he hp q0 q1 q2
     | false =>
      exact rg3_leaf m e p hm he hp q0 q1 q2
   | false =>
    exact rg1_leaf m e p hm he hp q0
 · exact h.elim
noncomputable def rGap : Ctr P := ⟨161, i3P, gpV, rg_gives⟩
def sgR (m e p : Int) : Int := bif gpE m e p == 0 then signN (gpI m e p) else 0
def sgRV : List Value → Value
 | [.int _ m, .int _ e, .int _ p] => .int .i64 (sgR m e p)
 | _ => undef
theorem signN_no {a : Iv} (h : s6B a = false) : signN a = 0 := by
 unfold s6B at h
 unfold signN
 cases f : fineL [a] with
 | false => rfl
 | true =>
  rw [f] at h
  simp only [Bool.true_and, Bool.or_eq_false_iff, decide_eq_false_iff_not] at h
  show (if a.lo > 0 then 1 else if a.hi < 0 then -1 else 0) = (0 : Int)
  rw [if_neg h.1, if_neg h.2.1]
noncomputable def TS : Env P := ⟨⟨[rGap, cSign6], []⟩, [], 20, []⟩
theorem rs0_leaf (m e p : Int) (hm : I64 m) (he : I64 e) (hp : I64 p) (q0 : (gpE m e p != 0) = true) : Gives P 110 #[.int .i64 m, .int .i64 e, .int .i64 p] (.int .i64 (sgR m e p)) := by
 have _u := And.intro hm (And.intro he hp)
 refine gives_of_run (E := TS) (lv := 1) (ds := (.b true :: [])) (v := .int .i64 0) (ps := [i3P [.int .i64 m, .int .i64 e, .int .i64 p], iP1 [I (gpI m e p)], (gpE m e p != 0) = true]) mo (by kernel_rfl) (ps_cons ⟨hm, he, hp⟩ (ps_cons ⟨_, rfl⟩ (ps_cons q0 ps_nil))) ?_
 unfold sgR
 have z : (gpE m e p == 0) = false := by simpa using q0
 rw [z]
 rfl
theorem rs1_leaf (m e p : Int) (hm : I64 m) (he : I64 e) (hp : I64 p) (q0 : (gpE m e p != 0) = false) (q1 : (s6B (gpI m e p)) = true) : Gives P 110 #[.int .i64 m, .int .i64 e, .int .i64 p] (.int .i64 (sgR m e p)) := by
 have _u := And.intro hm (And.intro he hp)
 refine gives_of_run (E := TS) (lv := 1) (ds := (.b false :: (.b false :: []))) (v := .int .i64 (signN (gpI m e p))) (ps := [i3P [.int .i64 m, .int .i64 e, .int .i64 p], iP1 [I (gpI m e p)], (gpE m e p != 0) = false, (!(s6B (gpI m e p))) = false]) mo (by kernel_rfl) (ps_cons ⟨hm, he, hp⟩ (ps_cons ⟨_, rfl⟩ (ps_cons q0 (ps_cons (neg_f q1) ps_nil)))) ?_
 unfold sgR
 have z : (gpE m e p == 0) = true := by simpa using q0
 rw [z]
 rfl
theorem rs2_leaf (m e p : Int) (hm : I64 m) (he : I64 e) (hp : I64 p) (q0 : (gpE m e p != 0) = false) (q1 : (s6B (gpI m e p)) = false) : Gives P 110 #[.int .i64 m, .int .i64 e, .int .i64 p] (.int .i64 (sgR m e p)) := by
 have _u := And.intro hm (And.intro he hp)
 refine gives_of_run (E := TS) (lv := 1) (ds := (.b false :: (.b true :: []))) (v := .int .i64 0) (ps := [i3P [.int .i64 m, .int .i64 e, .int .i64 p], iP1 [I (gpI m e p)], (gpE m e p != 0) = false, (!(s6B (gpI m e p))) = true]) mo (by kernel_rfl) (ps_cons ⟨hm, he, hp⟩ (ps_cons ⟨_, rfl⟩ (ps_cons q0 (ps_cons (neg_t q1) ps_nil)))) ?_
 unfold sgR
 have z : (gpE m e p == 0) = true := by simpa using q0
 rw [z]
 rw [signN_no q1]
 rfl
theorem rs_gives (args : List Value) (h : i3P args) : Gives P 110 args.toArray ((sgRV) args) := by
 unfold i3P at h
 split at h
 · rename_i m e p
   obtain ⟨hm, he, hp⟩ := h
   show Gives P _ #[.int .i64 m, .int .i64 e, .int .i64 p] (.int .i64 (sgR m e p))
   cases q0 : (gpE m e p != 0) with
   | true =>
    exact rs0_leaf m e p hm he hp q0
   | false =>
    cases q1 : (s6B (gpI m e p)) with
    | true =>
     exact rs1_leaf m e p hm he hp q0 q1
    | false =>
     exact rs2_leaf m e p hm he hp q0 q1
 · exact h.elim
noncomputable def rSgn : Ctr P := ⟨110, i3P, sgRV, rs_gives⟩
theorem sgR_eq {m e p : Int} (h : mB m e = true) (h1 : m - 1073741824 ≤ p) (h2 : p ≤ m + 1073741824) : sgR m e p = sg m e p := by
 obtain ⟨_, g, z⟩ := gp_of h h1 h2
 unfold sgR
 rw [z, g]
 rfl
noncomputable def TL : Env P := ⟨⟨[rHalf, rSgn], []⟩, [], 20, []⟩
structure Ste (m e f : Int) (k : Nat) (d : Int) : Prop where
 x1 : m - 1073741824 ≤ (hv m e d k).1
 x2 : (hv m e d k).1 ≤ m + 1073741824
 y1 : m - 1073741824 ≤ (hv m e d k).2
 y2 : (hv m e d k).2 ≤ m + 1073741824
 c : (IntKind.i64.wrap ((hv m e d k).1 + (hv m e d k).2)).fdiv (2 ^ 1) = ((hv m e d k).1 + (hv m e d k).2) / 2
 i : I64 ((IntKind.i64.wrap ((hv m e d k).1 + (hv m e d k).2)).fdiv (2 ^ 1))
 a : IntKind.i64.wrap ((hv m e d k).1 - (hv m e d k).2) = (hv m e d k).1 - (hv m e d k).2
 b : IntKind.i64.wrap ((hv m e d k).2 - (hv m e d k).1) = (hv m e d k).2 - (hv m e d k).1
 s : sgR m e ((IntKind.i64.wrap ((hv m e d k).1 + (hv m e d k).2)).fdiv (2 ^ 1)) = sg m e (((hv m e d k).1 + (hv m e d k).2) / 2)
 d1 : d = -1 → (1 < (hv m e d k).2 - (hv m e d k).1 ↔ k < 31)
 d2 : d = 1 → (1 < (hv m e d k).1 - (hv m e d k).2 ↔ k < 31)
theorem ste {m e d f : Int} (H : Hy m e d f) {k : Nat} (hk : k ≤ 31) : Ste m e f k d := by
 have F := hv_facts H.h1 H.h2 H.e1 H.e2 H.hs k hk
 have w := hw H hk
 have h1 := H.h1
 have h2 := H.h2
 have a1 := F.a1
 have a2 := F.a2
 have b1 := F.b1
 have b2 := F.b2
 have dd := F.d
 have M : mB m e = true := mB_iff.2 ⟨H.h1, H.h2, H.e1, H.e2⟩
 have p1 : k < 31 → (2 : Int) ≤ 2 ^ (31 - k) := fun h => by
  have : 31 - k = (31 - k - 1) + 1 := by omega
  rw [this, Int.pow_succ]
  have : (0 : Int) < 2 ^ (31 - k - 1) := Int.pow_pos (by decide)
  omega
 have p2 : ¬ k < 31 → (2 : Int) ^ (31 - k) = 1 := fun h => by
  have : 31 - k = 0 := by omega
  rw [this]; rfl
 refine ⟨a1, a2, b1, b2, w.c, by rw [w.c]; exact w.i, w.a, w.b, ?_, fun e => ?_, fun e => ?_⟩
 · rw [w.c]; exact sgR_eq M (by omega) (by omega)
 · subst e
   generalize (2 : Int) ^ (31 - k) = q at *
   by_cases hk : k < 31
   · have := p1 hk; omega
   · have := p2 hk; omega
 · subst e
   generalize (2 : Int) ^ (31 - k) = q at *
   by_cases hk : k < 31
   · have := p1 hk; omega
   · have := p2 hk; omega
noncomputable def bl_b : Code := bodyOf (innerOf P 58 0)
def bl_st (m e f : Int) (x : Int) (y : Int) (n : Int) : St := ⟨[(9, .v (.int .i64 x)), (10, .v (.int .i64 y)), (11, .v (.int .i64 n)), (0, .v (.int .i64 m)), (1, .v (.int .i64 e)), (2, .v (.int .i64 f)), (6, .v (.int .i64 0)), (7, .v (.int .i64 0)), (8, .v (.bool false))], [], [], [], []⟩
theorem bl_w0 (m e f : Int) (x : Int) (y : Int) (n : Int) (k_ : Nat) : stepF P TL 1 45 bl_b (bl_st m e f x y n) (.b true :: (.b true :: (.b true :: []))) 1000 (fun _ => some (bl_st m e f ((IntKind.i64.wrap (x + y)).fdiv (2 ^ 1)) y (IntKind.i64.wrap (n + 1)))) k_ =
 some (.normal, k_, [(decide (IntKind.i64.wrap (y - x) > 1)) = true, (decide (n < f)) = true, nP1 [.int .i64 (IntKind.i64.wrap (x + y))], i3P [.int .i64 m, .int .i64 e, .int .i64 ((IntKind.i64.wrap (x + y)).fdiv (2 ^ 1))], (decide (sgR m e ((IntKind.i64.wrap (x + y)).fdiv (2 ^ 1)) < 0)) = true, (.int .i64 ((IntKind.i64.wrap (x + y)).fdiv (2 ^ 1)) : Value) = .int .i64 ((IntKind.i64.wrap (x + y)).fdiv (2 ^ 1)), (.int .i64 y : Value) = .int .i64 y, (.int .i64 (IntKind.i64.wrap (n + 1)) : Value) = .int .i64 (IntKind.i64.wrap (n + 1)), (.int .i64 m : Value) = .int .i64 m, (.int .i64 e : Value) = .int .i64 e, (.int .i64 f : Value) = .int .i64 f, (.int .i64 0 : Value) = .int .i64 0, (.int .i64 0 : Value) = .int .i64 0, (.bool false : Value) = .bool false]) := by kernel_rfl
theorem bl_w0_ok (m e f : Int) (x : Int) (y : Int) (n : Int) (q0 : (decide (IntKind.i64.wrap (y - x) > 1)) = true) (q1 : (decide (n < f)) = true) (q2 : (decide (sgR m e ((IntKind.i64.wrap (x + y)).fdiv (2 ^ 1)) < 0)) = true) (x0 : nP1 [.int .i64 (IntKind.i64.wrap (x + y))]) (x1 : i3P [.int .i64 m, .int .i64 e, .int .i64 ((IntKind.i64.wrap (x + y)).fdiv (2 ^ 1))]) {good : Out → St → Prop} (hg : ∀ S1, Keeps S1 (bl_st m e f ((IntKind.i64.wrap (x + y)).fdiv (2 ^ 1)) y (IntKind.i64.wrap (n + 1))) → good .normal S1) : StepTo P TL 1 45 bl_b (bl_st m e f x y n) good :=
 step_run (bl_w0 m e f x y n) (ps_cons q0 (ps_cons q1 (ps_cons x0 (ps_cons x1 (ps_cons q2 (ps_cons rfl (ps_cons rfl (ps_cons rfl (ps_cons rfl (ps_cons rfl (ps_cons rfl (ps_cons rfl (ps_cons rfl (ps_cons rfl ps_nil)))))))))))))) rfl hg
theorem bl_w1 (m e f : Int) (x : Int) (y : Int) (n : Int) (k_ : Nat) : stepF P TL 1 45 bl_b (bl_st m e f x y n) (.b false :: []) 1000 (fun _ => some (bl_st m e f x y n)) k_ =
 some ((.exit 0), k_, [(decide (IntKind.i64.wrap (y - x) > 1)) = false, (.int .i64 x : Value) = .int .i64 x, (.int .i64 y : Value) = .int .i64 y, (.int .i64 n : Value) = .int .i64 n, (.int .i64 m : Value) = .int .i64 m, (.int .i64 e : Value) = .int .i64 e, (.int .i64 f : Value) = .int .i64 f, (.int .i64 0 : Value) = .int .i64 0, (.int .i64 0 : Value) = .int .i64 0, (.bool false : Value) = .bool false]) := by kernel_rfl
theorem bl_w1_ok (m e f : Int) (x : Int) (y : Int) (n : Int) (q0 : (decide (IntKind.i64.wrap (y - x) > 1)) = false)  {good : Out → St → Prop} (hg : ∀ S1, Keeps S1 (bl_st m e f x y n) → good (.exit 0) S1) : StepTo P TL 1 45 bl_b (bl_st m e f x y n) good :=
 step_run (bl_w1 m e f x y n) (ps_cons q0 (ps_cons rfl (ps_cons rfl (ps_cons rfl (ps_cons rfl (ps_cons rfl (ps_cons rfl (ps_cons rfl (ps_cons rfl (ps_cons rfl ps_nil)))))))))) rfl hg
theorem bl_w2 (m e f : Int) (x : Int) (y : Int) (n : Int) (k_ : Nat) : stepF P TL 1 45 bl_b (bl_st m e f x y n) (.b true :: (.b false :: [])) 1000 (fun _ => some (bl_st m e f x y n)) k_ =
 some ((.exit 0), k_, [(decide (IntKind.i64.wrap (y - x) > 1)) = true, (decide (n < f)) = false, (.int .i64 x : Value) = .int .i64 x, (.int .i64 y : Value) = .int .i64 y, (.int .i64 n : Value) = .int .i64 n, (.int .i64 m : Value) = .int .i64 m, (.int .i64 e : Value) = .int .i64 e, (.int .i64 f : Value) = .int .i64 f, (.int .i64 0 : Value) = .int .i64 0, (.int .i64 0 : Value) = .int .i64 0, (.bool false : Value) = .bool false]) := by kernel_rfl
theorem bl_w2_ok (m e f : Int) (x : Int) (y : Int) (n : Int) (q0 : (decide (IntKind.i64.wrap (y - x) > 1)) = true) (q1 : (decide (n < f)) = false)  {good : Out → St → Prop} (hg : ∀ S1, Keeps S1 (bl_st m e f x y n) → good (.exit 0) S1) : StepTo P TL 1 45 bl_b (bl_st m e f x y n) good :=
 step_run (bl_w2 m e f x y n) (ps_cons q0 (ps_cons q1 (ps_cons rfl (ps_cons rfl (ps_cons rfl (ps_cons rfl (ps_cons rfl (ps_cons rfl (ps_cons rfl (ps_cons rfl (ps_cons rfl ps_nil))))))))))) rfl hg
theorem bl_w3 (m e f : Int) (x : Int) (y : Int) (n : Int) (k_ : Nat) : stepF P TL 1 45 bl_b (bl_st m e f x y n) (.b true :: (.b true :: (.b false :: []))) 1000 (fun _ => some (bl_st m e f x ((IntKind.i64.wrap (x + y)).fdiv (2 ^ 1)) (IntKind.i64.wrap (n + 1)))) k_ =
 some (.normal, k_, [(decide (IntKind.i64.wrap (y - x) > 1)) = true, (decide (n < f)) = true, nP1 [.int .i64 (IntKind.i64.wrap (x + y))], i3P [.int .i64 m, .int .i64 e, .int .i64 ((IntKind.i64.wrap (x + y)).fdiv (2 ^ 1))], (decide (sgR m e ((IntKind.i64.wrap (x + y)).fdiv (2 ^ 1)) < 0)) = false, (.int .i64 x : Value) = .int .i64 x, (.int .i64 ((IntKind.i64.wrap (x + y)).fdiv (2 ^ 1)) : Value) = .int .i64 ((IntKind.i64.wrap (x + y)).fdiv (2 ^ 1)), (.int .i64 (IntKind.i64.wrap (n + 1)) : Value) = .int .i64 (IntKind.i64.wrap (n + 1)), (.int .i64 m : Value) = .int .i64 m, (.int .i64 e : Value) = .int .i64 e, (.int .i64 f : Value) = .int .i64 f, (.int .i64 0 : Value) = .int .i64 0, (.int .i64 0 : Value) = .int .i64 0, (.bool false : Value) = .bool false]) := by kernel_rfl
theorem bl_w3_ok (m e f : Int) (x : Int) (y : Int) (n : Int) (q0 : (decide (IntKind.i64.wrap (y - x) > 1)) = true) (q1 : (decide (n < f)) = true) (q2 : (decide (sgR m e ((IntKind.i64.wrap (x + y)).fdiv (2 ^ 1)) < 0)) = false) (x0 : nP1 [.int .i64 (IntKind.i64.wrap (x + y))]) (x1 : i3P [.int .i64 m, .int .i64 e, .int .i64 ((IntKind.i64.wrap (x + y)).fdiv (2 ^ 1))]) {good : Out → St → Prop} (hg : ∀ S1, Keeps S1 (bl_st m e f x ((IntKind.i64.wrap (x + y)).fdiv (2 ^ 1)) (IntKind.i64.wrap (n + 1))) → good .normal S1) : StepTo P TL 1 45 bl_b (bl_st m e f x y n) good :=
 step_run (bl_w3 m e f x y n) (ps_cons q0 (ps_cons q1 (ps_cons x0 (ps_cons x1 (ps_cons q2 (ps_cons rfl (ps_cons rfl (ps_cons rfl (ps_cons rfl (ps_cons rfl (ps_cons rfl (ps_cons rfl (ps_cons rfl (ps_cons rfl ps_nil)))))))))))))) rfl hg
noncomputable def bl_g (m e f : Int) (k : Nat) : St := bl_st m e f (hv m e (-1) k).1 (hv m e (-1) k).2 k
theorem bl_next {m e f : Int} (H : Hy m e (-1) f) {k : Nat} (hk : k < 31) (hf : (k : Int) < f) {good : Out → St → Prop} (hg : ∀ S1, Keeps S1 (bl_g m e f (k + 1)) → good .normal S1) : StepTo P TL 1 45 bl_b (bl_g m e f k) good := by
 have s := ste H (k := k) (by omega)
 have M : mB m e = true := mB_iff.2 ⟨H.h1, H.h2, H.e1, H.e2⟩
 have I_ := i64_m H
 have t3 := sg_three m e (((hv m e (-1) k).1 + (hv m e (-1) k).2) / 2)
 have q0 : decide (IntKind.i64.wrap ((hv m e (-1) k).2 - (hv m e (-1) k).1) > 1) = true := by rw [s.b]; exact decide_eq_true (s.d1 rfl |>.2 hk)
 have q1 : decide ((k : Int) < f) = true := decide_eq_true hf
 have en : IntKind.i64.wrap ((k : Int) + 1) = ((k + 1 : Nat) : Int) := by rw [Iv.wr (by omega) (by omega)]; rfl
 by_cases hs : sg m e (((hv m e (-1) k).1 + (hv m e (-1) k).2) / 2) < 0
 · refine bl_w0_ok m e f _ _ _ q0 q1 (by rw [s.s]; exact decide_eq_true hs) (wi _) ⟨I_.1, I_.2, s.i⟩ fun S1 hk1 => hg S1 ?_
   have e : hv m e (-1) (k + 1) = ((((hv m e (-1) k).1 + (hv m e (-1) k).2) / 2), (hv m e (-1) k).2) := hv_s (by rw [beq_iff_eq]; omega)
   unfold bl_g
   rw [e]
   rw [s.c, en] at hk1
   exact hk1
 · refine bl_w3_ok m e f _ _ _ q0 q1 (by rw [s.s]; exact decide_eq_false hs) (wi _) ⟨I_.1, I_.2, s.i⟩ fun S1 hk1 => hg S1 ?_
   have e : hv m e (-1) (k + 1) = ((hv m e (-1) k).1, (((hv m e (-1) k).1 + (hv m e (-1) k).2) / 2)) := hv_n (by rw [beq_eq_false_iff_ne]; omega)
   unfold bl_g
   rw [e]
   rw [s.c, en] at hk1
   exact hk1
def bl_k (f : Int) : Nat := (mn f 31).toNat
theorem bl_step {m e f : Int} (H : Hy m e (-1) f) (k : Nat) (hk : (k : Int) ≤ f ∧ k ≤ 31) : StepTo P TL 1 45 bl_b (bl_g m e f k) fun o S1 => (o = .normal ∧ ∃ g' : Nat, ((g' : Int) ≤ f ∧ g' ≤ 31) ∧ 31 - g' < 31 - k ∧ Keeps S1 (bl_g m e f g')) ∨ (o = .exit 0 ∧ Keeps S1 (bl_g m e f (bl_k f))) := by
 have s := ste H (k := k) hk.2
 by_cases h1 : k < 31
 · by_cases h2 : (k : Int) < f
   · exact bl_next H h1 h2 fun S1 hk => .inl ⟨rfl, k + 1, ⟨by omega, by omega⟩, by omega, hk⟩
   · have ek : bl_k f = k := by unfold bl_k mn; split <;> omega
     exact bl_w2_ok m e f _ _ _ (by rw [s.b]; exact decide_eq_true (s.d1 rfl |>.2 h1)) (decide_eq_false h2) fun S1 hk1 => .inr ⟨rfl, by rw [ek]; exact hk1⟩
 · have ek : bl_k f = k := by have := H.f1; unfold bl_k mn; split <;> omega
   exact bl_w1_ok m e f _ _ _ (by rw [s.b]; exact decide_eq_false (fun c => h1 (s.d1 rfl |>.1 c))) fun S1 hk1 => .inr ⟨rfl, by rw [ek]; exact hk1⟩
noncomputable def bl_loop (m e f : Int) (H : Hy m e (-1) f) : CodeC P :=
 loopC mo TL (by rfl) 1 45 bl_b [] (bl_g m e f) (fun k => (k : Int) ≤ f ∧ k ≤ 31) (fun k => 31 - k) (.exit 0) (bl_g m e f (bl_k f)) (by simp) (fun _ => rfl) rfl (fun _ => by kernel_rfl) (by kernel_rfl) [] (fun _ => rfl) rfl
  (bl_step H) 0 ⟨by have := H.f0; omega, by omega⟩
noncomputable def bl_E (m e f : Int) (H : Hy m e (-1) f) : Env P := ⟨⟨[], []⟩, [bl_loop m e f H], 10, []⟩
theorem bl_run (m e f : Int) (H : Hy m e (-1) f) : runF P (bl_E m e f H) 1 58 [.int .i64 m, .int .i64 e, .int .i64 f] (.n 0 :: []) =
 some (.tuple #[.int .i64 ((hv m e (-1) (bl_k f)).1), .int .i64 ((bl_k f : Nat) : Int), .bool (decide (IntKind.i64.wrap ((hv m e (-1) (bl_k f)).2 - ((hv m e (-1) (bl_k f)).1)) ≤ 1))], [Code.loop bl_b = innerOf P 58 0, (.int .i64 (IntKind.i64.wrap (m - 1073741824)) : Value) = .int .i64 ((hv m e (-1) 0).1), (.int .i64 (IntKind.i64.wrap (m + 1073741824)) : Value) = .int .i64 ((hv m e (-1) 0).2), (.int .i64 0 : Value) = .int .i64 ((0 : Nat) : Int), (.int .i64 m : Value) = .int .i64 m, (.int .i64 e : Value) = .int .i64 e, (.int .i64 f : Value) = .int .i64 f, (.int .i64 0 : Value) = .int .i64 0, (.int .i64 0 : Value) = .int .i64 0, (.bool false : Value) = .bool false]) := by kernel_rfl
theorem bl_all (m e f : Int) (H : Hy m e (-1) f) : Gives P 58 #[.int .i64 m, .int .i64 e, .int .i64 f] (.tuple #[.int .i64 (haA m e (-1) f), .int .i64 (haN f), .bool (haD f)]) := by
 have f0 := H.f0
 have kk : ((bl_k f : Nat) : Int) = mn f 31 := by unfold bl_k mn; split <;> omega
 have k31 : bl_k f ≤ 31 := by unfold bl_k mn; split <;> omega
 have s := ste H k31
 refine gives_of_run mo (bl_run m e f H) (ps_cons (by kernel_rfl) (ps_cons (by rw [Iv.wr (by have := H.h1; have := H.h2; omega) (by have := H.h1; have := H.h2; omega)]; exact congrArg (Value.int .i64) (by show _ = m + (-1) * 1073741824; omega)) (ps_cons (by rw [Iv.wr (by have := H.h1; have := H.h2; omega) (by have := H.h1; have := H.h2; omega)]; exact congrArg (Value.int .i64) (by show _ = m - (-1) * 1073741824; omega)) (ps_cons rfl (ps_cons rfl (ps_cons rfl (ps_cons rfl (ps_cons rfl (ps_cons rfl (ps_cons rfl ps_nil)))))))))) ?_
 have e3 : decide (IntKind.i64.wrap ((hv m e (-1) (bl_k f)).2 - (hv m e (-1) (bl_k f)).1) ≤ 1) = haD f := by
  rw [s.b]
  unfold haD
  rw [decide_eq_decide]
  have a := s.d1 rfl
  unfold mn at kk
  split at kk <;> omega
 rw [e3, kk]
 rfl
def blV : List Value → Value
 | [.int _ m, .int _ e, .int _ f] => .tuple #[.int .i64 (haA m e (-1) f), .int .i64 (haN f), .bool (haD f)]
 | _ => undef
noncomputable def ab_b : Code := bodyOf (innerOf P 59 0)
def ab_st (m e f : Int) (x : Int) (y : Int) (n : Int) : St := ⟨[(9, .v (.int .i64 x)), (10, .v (.int .i64 y)), (11, .v (.int .i64 n)), (0, .v (.int .i64 m)), (1, .v (.int .i64 e)), (2, .v (.int .i64 f)), (6, .v (.int .i64 0)), (7, .v (.int .i64 0)), (8, .v (.bool false))], [], [], [], []⟩
theorem ab_w0 (m e f : Int) (x : Int) (y : Int) (n : Int) (k_ : Nat) : stepF P TL 1 45 ab_b (ab_st m e f x y n) (.b true :: (.b true :: (.b true :: []))) 1000 (fun _ => some (ab_st m e f ((IntKind.i64.wrap (x + y)).fdiv (2 ^ 1)) y (IntKind.i64.wrap (n + 1)))) k_ =
 some (.normal, k_, [(decide (IntKind.i64.wrap (x - y) > 1)) = true, (decide (n < f)) = true, nP1 [.int .i64 (IntKind.i64.wrap (x + y))], i3P [.int .i64 m, .int .i64 e, .int .i64 ((IntKind.i64.wrap (x + y)).fdiv (2 ^ 1))], (decide (sgR m e ((IntKind.i64.wrap (x + y)).fdiv (2 ^ 1)) > 0)) = true, (.int .i64 ((IntKind.i64.wrap (x + y)).fdiv (2 ^ 1)) : Value) = .int .i64 ((IntKind.i64.wrap (x + y)).fdiv (2 ^ 1)), (.int .i64 y : Value) = .int .i64 y, (.int .i64 (IntKind.i64.wrap (n + 1)) : Value) = .int .i64 (IntKind.i64.wrap (n + 1)), (.int .i64 m : Value) = .int .i64 m, (.int .i64 e : Value) = .int .i64 e, (.int .i64 f : Value) = .int .i64 f, (.int .i64 0 : Value) = .int .i64 0, (.int .i64 0 : Value) = .int .i64 0, (.bool false : Value) = .bool false]) := by kernel_rfl
theorem ab_w0_ok (m e f : Int) (x : Int) (y : Int) (n : Int) (q0 : (decide (IntKind.i64.wrap (x - y) > 1)) = true) (q1 : (decide (n < f)) = true) (q2 : (decide (sgR m e ((IntKind.i64.wrap (x + y)).fdiv (2 ^ 1)) > 0)) = true) (x0 : nP1 [.int .i64 (IntKind.i64.wrap (x + y))]) (x1 : i3P [.int .i64 m, .int .i64 e, .int .i64 ((IntKind.i64.wrap (x + y)).fdiv (2 ^ 1))]) {good : Out → St → Prop} (hg : ∀ S1, Keeps S1 (ab_st m e f ((IntKind.i64.wrap (x + y)).fdiv (2 ^ 1)) y (IntKind.i64.wrap (n + 1))) → good .normal S1) : StepTo P TL 1 45 ab_b (ab_st m e f x y n) good :=
 step_run (ab_w0 m e f x y n) (ps_cons q0 (ps_cons q1 (ps_cons x0 (ps_cons x1 (ps_cons q2 (ps_cons rfl (ps_cons rfl (ps_cons rfl (ps_cons rfl (ps_cons rfl (ps_cons rfl (ps_cons rfl (ps_cons rfl (ps_cons rfl ps_nil)))))))))))))) rfl hg
theorem ab_w1 (m e f : Int) (x : Int) (y : Int) (n : Int) (k_ : Nat) : stepF P TL 1 45 ab_b (ab_st m e f x y n) (.b false :: []) 1000 (fun _ => some (ab_st m e f x y n)) k_ =
 some ((.exit 0), k_, [(decide (IntKind.i64.wrap (x - y) > 1)) = false, (.int .i64 x : Value) = .int .i64 x, (.int .i64 y : Value) = .int .i64 y, (.int .i64 n : Value) = .int .i64 n, (.int .i64 m : Value) = .int .i64 m, (.int .i64 e : Value) = .int .i64 e, (.int .i64 f : Value) = .int .i64 f, (.int .i64 0 : Value) = .int .i64 0, (.int .i64 0 : Value) = .int .i64 0, (.bool false : Value) = .bool false]) := by kernel_rfl
theorem ab_w1_ok (m e f : Int) (x : Int) (y : Int) (n : Int) (q0 : (decide (IntKind.i64.wrap (x - y) > 1)) = false)  {good : Out → St → Prop} (hg : ∀ S1, Keeps S1 (ab_st m e f x y n) → good (.exit 0) S1) : StepTo P TL 1 45 ab_b (ab_st m e f x y n) good :=
 step_run (ab_w1 m e f x y n) (ps_cons q0 (ps_cons rfl (ps_cons rfl (ps_cons rfl (ps_cons rfl (ps_cons rfl (ps_cons rfl (ps_cons rfl (ps_cons rfl (ps_cons rfl ps_nil)))))))))) rfl hg
theorem ab_w2 (m e f : Int) (x : Int) (y : Int) (n : Int) (k_ : Nat) : stepF P TL 1 45 ab_b (ab_st m e f x y n) (.b true :: (.b false :: [])) 1000 (fun _ => some (ab_st m e f x y n)) k_ =
 some ((.exit 0), k_, [(decide (IntKind.i64.wrap (x - y) > 1)) = true, (decide (n < f)) = false, (.int .i64 x : Value) = .int .i64 x, (.int .i64 y : Value) = .int .i64 y, (.int .i64 n : Value) = .int .i64 n, (.int .i64 m : Value) = .int .i64 m, (.int .i64 e : Value) = .int .i64 e, (.int .i64 f : Value) = .int .i64 f, (.int .i64 0 : Value) = .int .i64 0, (.int .i64 0 : Value) = .int .i64 0, (.bool false : Value) = .bool false]) := by kernel_rfl
theorem ab_w2_ok (m e f : Int) (x : Int) (y : Int) (n : Int) (q0 : (decide (IntKind.i64.wrap (x - y) > 1)) = true) (q1 : (decide (n < f)) = false)  {good : Out → St → Prop} (hg : ∀ S1, Keeps S1 (ab_st m e f x y n) → good (.exit 0) S1) : StepTo P TL 1 45 ab_b (ab_st m e f x y n) good :=
 step_run (ab_w2 m e f x y n) (ps_cons q0 (ps_cons q1 (ps_cons rfl (ps_cons rfl (ps_cons rfl (ps_cons rfl (ps_cons rfl (ps_cons rfl (ps_cons rfl (ps_cons rfl (ps_cons rfl ps_nil))))))))))) rfl hg
theorem ab_w3 (m e f : Int) (x : Int) (y : Int) (n : Int) (k_ : Nat) : stepF P TL 1 45 ab_b (ab_st m e f x y n) (.b true :: (.b true :: (.b false :: []))) 1000 (fun _ => some (ab_st m e f x ((IntKind.i64.wrap (x + y)).fdiv (2 ^ 1)) (IntKind.i64.wrap (n + 1)))) k_ =
 some (.normal, k_, [(decide (IntKind.i64.wrap (x - y) > 1)) = true, (decide (n < f)) = true, nP1 [.int .i64 (IntKind.i64.wrap (x + y))], i3P [.int .i64 m, .int .i64 e, .int .i64 ((IntKind.i64.wrap (x + y)).fdiv (2 ^ 1))], (decide (sgR m e ((IntKind.i64.wrap (x + y)).fdiv (2 ^ 1)) > 0)) = false, (.int .i64 x : Value) = .int .i64 x, (.int .i64 ((IntKind.i64.wrap (x + y)).fdiv (2 ^ 1)) : Value) = .int .i64 ((IntKind.i64.wrap (x + y)).fdiv (2 ^ 1)), (.int .i64 (IntKind.i64.wrap (n + 1)) : Value) = .int .i64 (IntKind.i64.wrap (n + 1)), (.int .i64 m : Value) = .int .i64 m, (.int .i64 e : Value) = .int .i64 e, (.int .i64 f : Value) = .int .i64 f, (.int .i64 0 : Value) = .int .i64 0, (.int .i64 0 : Value) = .int .i64 0, (.bool false : Value) = .bool false]) := by kernel_rfl
theorem ab_w3_ok (m e f : Int) (x : Int) (y : Int) (n : Int) (q0 : (decide (IntKind.i64.wrap (x - y) > 1)) = true) (q1 : (decide (n < f)) = true) (q2 : (decide (sgR m e ((IntKind.i64.wrap (x + y)).fdiv (2 ^ 1)) > 0)) = false) (x0 : nP1 [.int .i64 (IntKind.i64.wrap (x + y))]) (x1 : i3P [.int .i64 m, .int .i64 e, .int .i64 ((IntKind.i64.wrap (x + y)).fdiv (2 ^ 1))]) {good : Out → St → Prop} (hg : ∀ S1, Keeps S1 (ab_st m e f x ((IntKind.i64.wrap (x + y)).fdiv (2 ^ 1)) (IntKind.i64.wrap (n + 1))) → good .normal S1) : StepTo P TL 1 45 ab_b (ab_st m e f x y n) good :=
 step_run (ab_w3 m e f x y n) (ps_cons q0 (ps_cons q1 (ps_cons x0 (ps_cons x1 (ps_cons q2 (ps_cons rfl (ps_cons rfl (ps_cons rfl (ps_cons rfl (ps_cons rfl (ps_cons rfl (ps_cons rfl (ps_cons rfl (ps_cons rfl ps_nil)))))))))))))) rfl hg
noncomputable def ab_g (m e f : Int) (k : Nat) : St := ab_st m e f (hv m e 1 k).1 (hv m e 1 k).2 k
theorem ab_next {m e f : Int} (H : Hy m e 1 f) {k : Nat} (hk : k < 31) (hf : (k : Int) < f) {good : Out → St → Prop} (hg : ∀ S1, Keeps S1 (ab_g m e f (k + 1)) → good .normal S1) : StepTo P TL 1 45 ab_b (ab_g m e f k) good := by
 have s := ste H (k := k) (by omega)
 have M : mB m e = true := mB_iff.2 ⟨H.h1, H.h2, H.e1, H.e2⟩
 have I_ := i64_m H
 have t3 := sg_three m e (((hv m e 1 k).1 + (hv m e 1 k).2) / 2)
 have q0 : decide (IntKind.i64.wrap ((hv m e 1 k).1 - (hv m e 1 k).2) > 1) = true := by rw [s.a]; exact decide_eq_true (s.d2 rfl |>.2 hk)
 have q1 : decide ((k : Int) < f) = true := decide_eq_true hf
 have en : IntKind.i64.wrap ((k : Int) + 1) = ((k + 1 : Nat) : Int) := by rw [Iv.wr (by omega) (by omega)]; rfl
 by_cases hs : sg m e (((hv m e 1 k).1 + (hv m e 1 k).2) / 2) > 0
 · refine ab_w0_ok m e f _ _ _ q0 q1 (by rw [s.s]; exact decide_eq_true hs) (wi _) ⟨I_.1, I_.2, s.i⟩ fun S1 hk1 => hg S1 ?_
   have e : hv m e 1 (k + 1) = ((((hv m e 1 k).1 + (hv m e 1 k).2) / 2), (hv m e 1 k).2) := hv_s (by rw [beq_iff_eq]; omega)
   unfold ab_g
   rw [e]
   rw [s.c, en] at hk1
   exact hk1
 · refine ab_w3_ok m e f _ _ _ q0 q1 (by rw [s.s]; exact decide_eq_false hs) (wi _) ⟨I_.1, I_.2, s.i⟩ fun S1 hk1 => hg S1 ?_
   have e : hv m e 1 (k + 1) = ((hv m e 1 k).1, (((hv m e 1 k).1 + (hv m e 1 k).2) / 2)) := hv_n (by rw [beq_eq_false_iff_ne]; omega)
   unfold ab_g
   rw [e]
   rw [s.c, en] at hk1
   exact hk1
def ab_k (f : Int) : Nat := (mn f 31).toNat
theorem ab_step {m e f : Int} (H : Hy m e 1 f) (k : Nat) (hk : (k : Int) ≤ f ∧ k ≤ 31) : StepTo P TL 1 45 ab_b (ab_g m e f k) fun o S1 => (o = .normal ∧ ∃ g' : Nat, ((g' : Int) ≤ f ∧ g' ≤ 31) ∧ 31 - g' < 31 - k ∧ Keeps S1 (ab_g m e f g')) ∨ (o = .exit 0 ∧ Keeps S1 (ab_g m e f (ab_k f))) := by
 have s := ste H (k := k) hk.2
 by_cases h1 : k < 31
 · by_cases h2 : (k : Int) < f
   · exact ab_next H h1 h2 fun S1 hk => .inl ⟨rfl, k + 1, ⟨by omega, by omega⟩, by omega, hk⟩
   · have ek : ab_k f = k := by unfold ab_k mn; split <;> omega
     exact ab_w2_ok m e f _ _ _ (by rw [s.a]; exact decide_eq_true (s.d2 rfl |>.2 h1)) (decide_eq_false h2) fun S1 hk1 => .inr ⟨rfl, by rw [ek]; exact hk1⟩
 · have ek : ab_k f = k := by have := H.f1; unfold ab_k mn; split <;> omega
   exact ab_w1_ok m e f _ _ _ (by rw [s.a]; exact decide_eq_false (fun c => h1 (s.d2 rfl |>.1 c))) fun S1 hk1 => .inr ⟨rfl, by rw [ek]; exact hk1⟩
noncomputable def ab_loop (m e f : Int) (H : Hy m e 1 f) : CodeC P :=
 loopC mo TL (by rfl) 1 45 ab_b [] (ab_g m e f) (fun k => (k : Int) ≤ f ∧ k ≤ 31) (fun k => 31 - k) (.exit 0) (ab_g m e f (ab_k f)) (by simp) (fun _ => rfl) rfl (fun _ => by kernel_rfl) (by kernel_rfl) [] (fun _ => rfl) rfl
  (ab_step H) 0 ⟨by have := H.f0; omega, by omega⟩
noncomputable def ab_E (m e f : Int) (H : Hy m e 1 f) : Env P := ⟨⟨[], []⟩, [ab_loop m e f H], 10, []⟩
theorem ab_run (m e f : Int) (H : Hy m e 1 f) : runF P (ab_E m e f H) 1 59 [.int .i64 m, .int .i64 e, .int .i64 f] (.n 0 :: []) =
 some (.tuple #[.int .i64 ((hv m e 1 (ab_k f)).1), .int .i64 ((ab_k f : Nat) : Int), .bool (decide (IntKind.i64.wrap ((hv m e 1 (ab_k f)).1 - ((hv m e 1 (ab_k f)).2)) ≤ 1))], [Code.loop ab_b = innerOf P 59 0, (.int .i64 (IntKind.i64.wrap (m + 1073741824)) : Value) = .int .i64 ((hv m e 1 0).1), (.int .i64 (IntKind.i64.wrap (m - 1073741824)) : Value) = .int .i64 ((hv m e 1 0).2), (.int .i64 0 : Value) = .int .i64 ((0 : Nat) : Int), (.int .i64 m : Value) = .int .i64 m, (.int .i64 e : Value) = .int .i64 e, (.int .i64 f : Value) = .int .i64 f, (.int .i64 0 : Value) = .int .i64 0, (.int .i64 0 : Value) = .int .i64 0, (.bool false : Value) = .bool false]) := by kernel_rfl
theorem ab_all (m e f : Int) (H : Hy m e 1 f) : Gives P 59 #[.int .i64 m, .int .i64 e, .int .i64 f] (.tuple #[.int .i64 (haA m e 1 f), .int .i64 (haN f), .bool (haD f)]) := by
 have f0 := H.f0
 have kk : ((ab_k f : Nat) : Int) = mn f 31 := by unfold ab_k mn; split <;> omega
 have k31 : ab_k f ≤ 31 := by unfold ab_k mn; split <;> omega
 have s := ste H k31
 refine gives_of_run mo (ab_run m e f H) (ps_cons (by kernel_rfl) (ps_cons (by rw [Iv.wr (by have := H.h1; have := H.h2; omega) (by have := H.h1; have := H.h2; omega)]; exact congrArg (Value.int .i64) (by show _ = m + 1 * 1073741824; omega)) (ps_cons (by rw [Iv.wr (by have := H.h1; have := H.h2; omega) (by have := H.h1; have := H.h2; omega)]; exact congrArg (Value.int .i64) (by show _ = m - 1 * 1073741824; omega)) (ps_cons rfl (ps_cons rfl (ps_cons rfl (ps_cons rfl (ps_cons rfl (ps_cons rfl (ps_cons rfl ps_nil)))))))))) ?_
 have e3 : decide (IntKind.i64.wrap ((hv m e 1 (ab_k f)).1 - (hv m e 1 (ab_k f)).2) ≤ 1) = haD f := by
  rw [s.a]
  unfold haD
  rw [decide_eq_decide]
  have a := s.d2 rfl
  unfold mn at kk
  split at kk <;> omega
 rw [e3, kk]
 rfl
def abV : List Value → Value
 | [.int _ m, .int _ e, .int _ f] => .tuple #[.int .i64 (haA m e 1 f), .int .i64 (haN f), .bool (haD f)]
 | _ => undef
def hyP : List Value → Prop
 | l => ∃ m e f, l = [.int .i64 m, .int .i64 e, .int .i64 f] ∧ (mB m e && fB f) = true
theorem hy_of {m e f d : Int} (h : (mB m e && fB f) = true) (hd : d = -1 ∨ d = 1) : Hy m e d f := by
 simp only [Bool.and_eq_true] at h
 have a := mB_iff.1 h.1
 have b := fB_iff.1 h.2
 exact ⟨a.1, a.2.1, a.2.2.1, a.2.2.2, hd, b.1, b.2⟩
theorem below_gives (args : List Value) (h : hyP args) : Gives P 58 args.toArray (blV args) := by
 obtain ⟨m, e, f, rfl, h⟩ := h
 exact bl_all m e f (hy_of h (.inl rfl))
theorem above_gives (args : List Value) (h : hyP args) : Gives P 59 args.toArray (abV args) := by
 obtain ⟨m, e, f, rfl, h⟩ := h
 exact ab_all m e f (hy_of h (.inr rfl))
noncomputable def rBelow : Ctr P := ⟨58, hyP, blV, below_gives⟩
noncomputable def rAbove : Ctr P := ⟨59, hyP, abV, above_gives⟩
noncomputable def TO : Env P := ⟨⟨[rMay, rBelow, rAbove], []⟩, [], 20, []⟩
theorem ro0_leaf (m e f : Int) (hm : I64 m) (he : I64 e) (hf : I64 f) (q0 : (mB m e) = true) (q1 : (decide (f < 0)) = true) : Gives P 26 #[.int .i64 m, .int .i64 e, .int .i64 f] (.tuple #[I (soI m e f), .int .i64 (soN m e f), .int .i64 (soE m e f)]) := by
 have _u := And.intro hm (And.intro he hf)
 refine gives_of_run (E := TO) (lv := 1) (ds := (.b false :: (.b true :: []))) (v := .tuple #[I (⟨0, 0, false⟩), .int .i64 0, .int .i64 2]) (ps := [i2P [.int .i64 m, .int .i64 e], (!(mB m e)) = false, (decide (f < 0)) = true]) mo (by kernel_rfl) (ps_cons ⟨hm, he⟩ (ps_cons (neg_f q0) (ps_cons q1 ps_nil))) ?_
 unfold soI soN soE fB
 rw [q0, decide_eq_false (show ¬ f ≥ 0 by have := of_decide_eq_true q1; omega)]
 rfl
theorem ro1_leaf (m e f : Int) (hm : I64 m) (he : I64 e) (hf : I64 f) (q0 : (mB m e) = false) : Gives P 26 #[.int .i64 m, .int .i64 e, .int .i64 f] (.tuple #[I (soI m e f), .int .i64 (soN m e f), .int .i64 (soE m e f)]) := by
 have _u := And.intro hm (And.intro he hf)
 refine gives_of_run (E := TO) (lv := 1) (ds := (.b true :: [])) (v := .tuple #[I (⟨0, 0, false⟩), .int .i64 0, .int .i64 2]) (ps := [i2P [.int .i64 m, .int .i64 e], (!(mB m e)) = true]) mo (by kernel_rfl) (ps_cons ⟨hm, he⟩ (ps_cons (neg_t q0) ps_nil)) ?_
 unfold soI soN soE fB
 rw [q0]
 rfl
theorem ro2_leaf (m e f : Int) (hm : I64 m) (he : I64 e) (hf : I64 f) (q0 : (mB m e) = true) (q1 : (decide (f < 0)) = false) (q2 : (decide (f > 40)) = true) : Gives P 26 #[.int .i64 m, .int .i64 e, .int .i64 f] (.tuple #[I (soI m e f), .int .i64 (soN m e f), .int .i64 (soE m e f)]) := by
 have _u := And.intro hm (And.intro he hf)
 refine gives_of_run (E := TO) (lv := 1) (ds := (.b false :: (.b false :: (.b true :: [])))) (v := .tuple #[I (⟨0, 0, false⟩), .int .i64 0, .int .i64 2]) (ps := [i2P [.int .i64 m, .int .i64 e], (!(mB m e)) = false, (decide (f < 0)) = false, (decide (f > 40)) = true]) mo (by kernel_rfl) (ps_cons ⟨hm, he⟩ (ps_cons (neg_f q0) (ps_cons q1 (ps_cons q2 ps_nil)))) ?_
 unfold soI soN soE fB
 rw [q0, decide_eq_true (show f ≥ 0 by have := of_decide_eq_false q1; omega), decide_eq_false (show ¬ f ≤ 40 by have := of_decide_eq_true q2; omega)]
 rfl
theorem ro3_leaf (m e f : Int) (hm : I64 m) (he : I64 e) (hf : I64 f) (q0 : (mB m e) = true) (q1 : (decide (f < 0)) = false) (q2 : (decide (f > 40)) = false) (q3 : (haD f) = true) : Gives P 26 #[.int .i64 m, .int .i64 e, .int .i64 f] (.tuple #[I (soI m e f), .int .i64 (soN m e f), .int .i64 (soE m e f)]) := by
 have _u := And.intro hm (And.intro he hf)
 refine gives_of_run (E := TO) (lv := 1) (ds := (.b false :: (.b false :: (.b false :: (.b false :: (.b false :: [])))))) (v := .tuple #[I (⟨haA m e (-1) f, haA m e 1 f, false⟩), .int .i64 (IntKind.i64.wrap (haN f + (haN f))), .int .i64 0]) (ps := [i2P [.int .i64 m, .int .i64 e], (!(mB m e)) = false, (decide (f < 0)) = false, (decide (f > 40)) = false, hyP [.int .i64 m, .int .i64 e, .int .i64 f], hyP [.int .i64 m, .int .i64 e, .int .i64 f], (!(haD f)) = false, (!(haD f)) = false]) mo (by kernel_rfl) (ps_cons ⟨hm, he⟩ (ps_cons (neg_f q0) (ps_cons q1 (ps_cons q2 (ps_cons ⟨_, _, _, rfl, by unfold fB; rw [q0, decide_eq_true (show f ≥ 0 by have := of_decide_eq_false q1; omega), decide_eq_true (show f ≤ 40 by have := of_decide_eq_false q2; omega)]; rfl⟩ (ps_cons ⟨_, _, _, rfl, by unfold fB; rw [q0, decide_eq_true (show f ≥ 0 by have := of_decide_eq_false q1; omega), decide_eq_true (show f ≤ 40 by have := of_decide_eq_false q2; omega)]; rfl⟩ (ps_cons (neg_f q3) (ps_cons (neg_f q3) ps_nil)))))))) ?_
 unfold soI soN soE fB
 rw [q0, decide_eq_true (show f ≥ 0 by have := of_decide_eq_false q1; omega), decide_eq_true (show f ≤ 40 by have := of_decide_eq_false q2; omega), q3]
 rfl
theorem ro4_leaf (m e f : Int) (hm : I64 m) (he : I64 e) (hf : I64 f) (q0 : (mB m e) = true) (q1 : (decide (f < 0)) = false) (q2 : (decide (f > 40)) = false) (q3 : (haD f) = false) : Gives P 26 #[.int .i64 m, .int .i64 e, .int .i64 f] (.tuple #[I (soI m e f), .int .i64 (soN m e f), .int .i64 (soE m e f)]) := by
 have _u := And.intro hm (And.intro he hf)
 refine gives_of_run (E := TO) (lv := 1) (ds := (.b false :: (.b false :: (.b false :: (.b true :: []))))) (v := .tuple #[I (⟨haA m e (-1) f, haA m e 1 f, false⟩), .int .i64 (IntKind.i64.wrap (haN f + (haN f))), .int .i64 200]) (ps := [i2P [.int .i64 m, .int .i64 e], (!(mB m e)) = false, (decide (f < 0)) = false, (decide (f > 40)) = false, hyP [.int .i64 m, .int .i64 e, .int .i64 f], hyP [.int .i64 m, .int .i64 e, .int .i64 f], (!(haD f)) = true]) mo (by kernel_rfl) (ps_cons ⟨hm, he⟩ (ps_cons (neg_f q0) (ps_cons q1 (ps_cons q2 (ps_cons ⟨_, _, _, rfl, by unfold fB; rw [q0, decide_eq_true (show f ≥ 0 by have := of_decide_eq_false q1; omega), decide_eq_true (show f ≤ 40 by have := of_decide_eq_false q2; omega)]; rfl⟩ (ps_cons ⟨_, _, _, rfl, by unfold fB; rw [q0, decide_eq_true (show f ≥ 0 by have := of_decide_eq_false q1; omega), decide_eq_true (show f ≤ 40 by have := of_decide_eq_false q2; omega)]; rfl⟩ (ps_cons (neg_t q3) ps_nil))))))) ?_
 unfold soI soN soE fB
 rw [q0, decide_eq_true (show f ≥ 0 by have := of_decide_eq_false q1; omega), decide_eq_true (show f ≤ 40 by have := of_decide_eq_false q2; omega), q3]
 rfl
theorem ro_gives (args : List Value) (h : i3P args) : Gives P 26 args.toArray ((soV) args) := by
 unfold i3P at h
 split at h
 · rename_i m e f
   obtain ⟨hm, he, hf⟩ := h
   show Gives P _ #[.int .i64 m, .int .i64 e, .int .i64 f] (.tuple #[I (soI m e f), .int .i64 (soN m e f), .int .i64 (soE m e f)])
   cases q0 : (mB m e) with
   | true =>
    cases q1 : (decide (f < 0)) with
    | true =>
     exact ro0_leaf m e f hm he hf q0 q1
    | false =>
     cases q2 : (decide (f > 40)) with
     | true =>
      exact ro2_leaf m e f hm he hf q0 q1 q2
     | false =>
      cases q3 : (haD f) with
      | true =>
       exact ro3_leaf m e f hm he hf q0 q1 q2 q3
      | false =>
       exact ro4_leaf m e f hm he hf q0 q1 q2 q3
   | false =>
    exact ro1_leaf m e f hm he hf q0
 · exact h.elim
noncomputable def rSolve : Ctr P := ⟨26, i3P, soV, ro_gives⟩
end Go.Ke
