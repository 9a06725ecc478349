/-
  Contracts of package inv: quotients. Printed by inB_gen.py.
-/
import Derived.Test.YtlocadeokekenaaGreatDoorRtb
import Derived.Test.YtlocadeokekenaaGreatDoorSta
import Derived.Test.YtlocadeokekenaaGreatDoorIvb
set_option maxRecDepth 100000
namespace Go.Nv
open Go Go.RowKit Go.Sx Go.Nm Go.Wd Go.Qt Go.Iv Go.Rt Go.Proofs
def timesV : List Value → Value
  | [.int _ x, .int _ y] => W (x * y)
  | _ => undef
def surP : List Value → Prop
  | [x, .int .i64 e] => IsW x ∧ e = 0
  | _ => False
def surV : List Value → Value
  | [x, _] => x
  | _ => undef
noncomputable def J5 : Env P := ⟨⟨wideC ++ quotC, []⟩, [], 10, []⟩
theorem times_run (x y : Int) : runF P J5 1 79 [.int .i64 x, .int .i64 y] [] =
  some (W (tI (W x) * tI (W y)), [ofP [.int .i64 x], ofP [.int .i64 y], P2 [W x, W y]]) := by kernel_rfl
theorem times_leaf (x y : Int) (hx : I64 x) (hy : I64 y) : Gives P 79 #[.int .i64 x, .int .i64 y] (W (x * y)) := by
  have e0 : tI (W x) = x := tI_in (i64_in hx)
  have e1 : tI (W y) = y := tI_in (i64_in hy)
  have R := times_run x y
  rw [e0, e1] at R
  refine gives_of_run mo R (ps_cons hx (ps_cons hy (ps_cons (P2_W _ _) ps_nil))) ?_
  rfl
theorem sure_run (x : Int) : runF P J5 2 77 [W x, .int .i64 0] [] =
  some (W x, []) := by kernel_rfl
theorem sure_leaf (x : Int)  : Gives P 77 #[W x, .int .i64 0] (W x) := by
  have R := sure_run x
  refine gives_of_run mo R ps_nil ?_
  rfl
theorem times_gives (args : List Value) (h : nP2 args) : Gives P 79 args.toArray (timesV args) := by
  unfold nP2 at h
  split at h
  · obtain ⟨hx, hy⟩ := h
    exact times_leaf _ _ hx hy
  · exact h.elim
noncomputable def cTimes : Ctr P := ⟨79, nP2, timesV, times_gives⟩
theorem sure_gives (args : List Value) (h : surP args) : Gives P 77 args.toArray (surV args) := by
  unfold surP at h
  split at h
  · obtain ⟨⟨x, rfl⟩, rfl⟩ := h
    exact sure_leaf x
  · exact h.elim
noncomputable def cSure : Ctr P := ⟨77, surP, surV, sure_gives⟩
noncomputable def tf : Func := Tryz.f90
noncomputable def tOps : Array Oper := opsOf (codeOf tf)
noncomputable def tRest : Code := restOf (codeOf tf)
noncomputable def toldN : DefC P :=
  recC mo Q0 (by rfl) 1 90 0 2 tf tOps tRest (tOps[0]?.getD default) (by kernel_rfl) (by kernel_rfl) (by kernel_rfl) (of_decide_eq_true (by kernel_rfl)) (by kernel_rfl) (by kernel_rfl) (by kernel_rfl) (of_decide_eq_true (by kernel_rfl)) (by kernel_rfl)
noncomputable def JN : Env P := ⟨⟨[cTimes, cSure] ++ wideC ++ quotC, [cFine]⟩, [], 10, [toldN]⟩
def mnW (l r : Int) : Int := bif decide (cmp3 (tI (W l)) (tI (W r)) < 0) then l else r
def mxW (u r : Int) : Int := bif decide (cmp3 (tI (W u)) (tI (W r)) > 0) then u else r
theorem mnW_t {l r : Int} (h : decide (cmp3 (tI (W l)) (tI (W r)) < 0) = true) : mnW l r = l := by unfold mnW; rw [h]; rfl
theorem mnW_f {l r : Int} (h : decide (cmp3 (tI (W l)) (tI (W r)) < 0) = false) : mnW l r = r := by unfold mnW; rw [h]; rfl
theorem mxW_t {l r : Int} (h : decide (cmp3 (tI (W l)) (tI (W r)) > 0) = true) : mxW l r = l := by unfold mxW; rw [h]; rfl
theorem mxW_f {l r : Int} (h : decide (cmp3 (tI (W l)) (tI (W r)) > 0) = false) : mxW l r = r := by unfold mxW; rw [h]; rfl
theorem mnW_mn {l r : Int} (hl : InR l) (hr : InR r) : mnW l r = mn r l ∧ InR (mnW l r) := by
  unfold mnW mn
  rw [tI_in hl, tI_in hr]
  by_cases h : l < r
  · rw [decide_eq_true (by unfold cmp3; omega : cmp3 l r < 0), if_pos h]; exact ⟨rfl, hl⟩
  · rw [decide_eq_false (by unfold cmp3; omega : ¬ cmp3 l r < 0), if_neg h]; exact ⟨rfl, hr⟩
theorem mxW_mx {l r : Int} (hl : InR l) (hr : InR r) : mxW l r = mx r l ∧ InR (mxW l r) := by
  unfold mxW mx
  rw [tI_in hl, tI_in hr]
  by_cases h : l > r
  · rw [decide_eq_true (by unfold cmp3; omega : cmp3 l r > 0), if_pos h]; exact ⟨rfl, hl⟩
  · rw [decide_eq_false (by unfold cmp3; omega : ¬ cmp3 l r > 0), if_neg h]; exact ⟨rfl, hr⟩
noncomputable def qRec0 (a b : Iv) : LoopS := recOf (innerOf P 64 0) 47 [(23, .fn 92 [(34, 0), (35, 0)]), (22, .v (I b)), (21, .v (I a)), (3, .ptr 29 0), (20, .v (.tuple #[])), (19, .v (.bool true)), (18, .v (.bool true)), (17, .v (.tuple #[])), (16, .v (.tuple #[])), (15, .v (.tuple #[])), (14, .v (.bool true)), (13, .v (.bool (decide (b.lo > 0)))), (12, .v (.int .i64 b.lo)), (11, .ptr 1 0), (10, .v (.bool true)), (9, .v (.bool (fineL [a, b]))), (8, .sl 14 0 2 2), (7, .v (I b)), (6, .v (I a)), (2, .ptr 11 0), (0, .ptr 0 0), (1, .ptr 1 0)]
noncomputable def qRec1 (a b : Iv) : LoopS := recOf (innerOf P 64 0) 47 [(23, .fn 92 [(34, 0), (35, 0)]), (22, .v (I b)), (21, .v (I a)), (3, .ptr 29 0), (20, .v (.tuple #[])), (19, .v (.bool (decide (b.hi < 0)))), (18, .v (.bool (decide (b.hi < 0)))), (17, .v (.bool (decide (b.hi < 0)))), (16, .v (.int .i64 b.hi)), (15, .ptr 1 1), (14, .v (.bool false)), (13, .v (.bool (decide (b.lo > 0)))), (12, .v (.int .i64 b.lo)), (11, .ptr 1 0), (10, .v (.bool true)), (9, .v (.bool (fineL [a, b]))), (8, .sl 14 0 2 2), (7, .v (I b)), (6, .v (I a)), (2, .ptr 11 0), (0, .ptr 0 0), (1, .ptr 1 0)]
noncomputable def J2 : Env P := V0
def mq0_s (R39 : LoopS) (a b : Iv) (l u rl ru : Int) : St := ⟨[(33, .v (.bool (decide (cmp3 (tI (W l)) (tI (W rl)) < 0)))), (2, .ptr 11 0), (3, .ptr 29 0), (4, .ptr 136 0), (5, .ptr 138 0)], [(0, (.whole (I a), 23)), (1, (.whole (I b), 23)), (2, (.whole (I (⟨0, 0, false⟩)), 23)), (6, (.whole (I (⟨0, 0, false⟩)), 23)), (11, (.parts [.v (.int .u64 (w0 rl)), .v (.int .u64 (w1 rl)), .v (.int .u64 (w2 rl)), .v (.int .u64 (w3 rl)), .v (.int .u64 (w0 ru)), .v (.int .u64 (w1 ru)), .v (.int .u64 (w2 ru)), .v (.int .u64 (w3 ru))], 54)), (14, (.parts [.v (.int .i64 a.lo), .v (.int .i64 a.hi), .v (.bool a.bad), .v (.int .i64 b.lo), .v (.int .i64 b.hi), .v (.bool b.bad)], 23)), (29, (.whole (.bool false), 4)), (34, (.whole (I a), 23)), (35, (.whole (I b), 23)), (136, (.whole (W l), 52)), (138, (.whole (W u), 52))], [(39, R39)], [138, 136, 118, 117, 83, 81, 63, 62, 39, 35, 34, 29, 14, 11, 6, 2, 1, 0], []⟩
def mq0_f (R39 : LoopS) (a b : Iv) (l u rl ru : Int) : St := ⟨[(2, .ptr 11 0), (3, .ptr 29 0), (4, .ptr 136 0), (5, .ptr 138 0)], [(0, (.whole (I a), 23)), (1, (.whole (I b), 23)), (2, (.whole (I (⟨0, 0, false⟩)), 23)), (6, (.whole (I (⟨0, 0, false⟩)), 23)), (11, (.parts [.v (.int .u64 (w0 (mnW l rl))), .v (.int .u64 (w1 (mnW l rl))), .v (.int .u64 (w2 (mnW l rl))), .v (.int .u64 (w3 (mnW l rl))), .v (.int .u64 (w0 ru)), .v (.int .u64 (w1 ru)), .v (.int .u64 (w2 ru)), .v (.int .u64 (w3 ru))], 54)), (14, (.parts [.v (.int .i64 a.lo), .v (.int .i64 a.hi), .v (.bool a.bad), .v (.int .i64 b.lo), .v (.int .i64 b.hi), .v (.bool b.bad)], 23)), (29, (.whole (.bool false), 4)), (34, (.whole (I a), 23)), (35, (.whole (I b), 23)), (136, (.whole (W l), 52)), (138, (.whole (W u), 52))], [(39, R39)], [138, 136, 118, 117, 83, 81, 63, 62, 39, 35, 34, 29, 14, 11, 6, 2, 1, 0], []⟩
theorem mq0_t (R39 : LoopS) (a b : Iv) (l u rl ru : Int) (k : Nat) : stepF P J2 1 47 (condOf P 64 0) (mq0_s R39 a b l u rl ru) (.b true :: []) 1000 (fun _ => some (mq0_f R39 a b l u rl ru)) k =
  some (.normal, k, [(decide (cmp3 (tI (W l)) (tI (W rl)) < 0)) = true, (.ptr 11 0 : SV) = .ptr 11 0, (.ptr 29 0 : SV) = .ptr 29 0, (.ptr 136 0 : SV) = .ptr 136 0, (.ptr 138 0 : SV) = .ptr 138 0, (I a : Value) = I a, (I b : Value) = I b, (I (⟨0, 0, false⟩) : Value) = I (⟨0, 0, false⟩), (I (⟨0, 0, false⟩) : Value) = I (⟨0, 0, false⟩), (.int .u64 (w0 l) : Value) = .int .u64 (w0 (mnW l rl)), (.int .u64 (w1 l) : Value) = .int .u64 (w1 (mnW l rl)), (.int .u64 (w2 l) : Value) = .int .u64 (w2 (mnW l rl)), (.int .u64 (w3 l) : Value) = .int .u64 (w3 (mnW l rl)), (.int .u64 (w0 ru) : Value) = .int .u64 (w0 ru), (.int .u64 (w1 ru) : Value) = .int .u64 (w1 ru), (.int .u64 (w2 ru) : Value) = .int .u64 (w2 ru), (.int .u64 (w3 ru) : Value) = .int .u64 (w3 ru), (.int .i64 a.lo : Value) = .int .i64 a.lo, (.int .i64 a.hi : Value) = .int .i64 a.hi, (.bool a.bad : Value) = .bool a.bad, (.int .i64 b.lo : Value) = .int .i64 b.lo, (.int .i64 b.hi : Value) = .int .i64 b.hi, (.bool b.bad : Value) = .bool b.bad, (.bool false : Value) = .bool false, (I a : Value) = I a, (I b : Value) = I b, (W l : Value) = W l, (W u : Value) = W u, R39 = R39]) := by kernel_rfl
theorem mq0_f' (R39 : LoopS) (a b : Iv) (l u rl ru : Int) (k : Nat) : stepF P J2 1 47 (condOf P 64 0) (mq0_s R39 a b l u rl ru) (.b false :: []) 1000 (fun _ => some (mq0_f R39 a b l u rl ru)) k =
  some (.normal, k, [(decide (cmp3 (tI (W l)) (tI (W rl)) < 0)) = false, (.ptr 11 0 : SV) = .ptr 11 0, (.ptr 29 0 : SV) = .ptr 29 0, (.ptr 136 0 : SV) = .ptr 136 0, (.ptr 138 0 : SV) = .ptr 138 0, (I a : Value) = I a, (I b : Value) = I b, (I (⟨0, 0, false⟩) : Value) = I (⟨0, 0, false⟩), (I (⟨0, 0, false⟩) : Value) = I (⟨0, 0, false⟩), (.int .u64 (w0 rl) : Value) = .int .u64 (w0 (mnW l rl)), (.int .u64 (w1 rl) : Value) = .int .u64 (w1 (mnW l rl)), (.int .u64 (w2 rl) : Value) = .int .u64 (w2 (mnW l rl)), (.int .u64 (w3 rl) : Value) = .int .u64 (w3 (mnW l rl)), (.int .u64 (w0 ru) : Value) = .int .u64 (w0 ru), (.int .u64 (w1 ru) : Value) = .int .u64 (w1 ru), (.int .u64 (w2 ru) : Value) = .int .u64 (w2 ru), (.int .u64 (w3 ru) : Value) = .int .u64 (w3 ru), (.int .i64 a.lo : Value) = .int .i64 a.lo, (.int .i64 a.hi : Value) = .int .i64 a.hi, (.bool a.bad : Value) = .bool a.bad, (.int .i64 b.lo : Value) = .int .i64 b.lo, (.int .i64 b.hi : Value) = .int .i64 b.hi, (.bool b.bad : Value) = .bool b.bad, (.bool false : Value) = .bool false, (I a : Value) = I a, (I b : Value) = I b, (W l : Value) = W l, (W u : Value) = W u, R39 = R39]) := by kernel_rfl
noncomputable def mq0 (R39 : LoopS) (a b : Iv) (l u rl ru : Int) (hw : wfSt [138, 136, 118, 117, 83, 81, 63, 62, 39, 35, 34, 29, 14, 11, 6, 2, 1, 0] (mq0_s R39 a b l u rl ru) = true) (hf : wfSt [138, 136, 118, 117, 83, 81, 63, 62, 39, 35, 34, 29, 14, 11, 6, 2, 1, 0] (mq0_f R39 a b l u rl ru) = true) : CodeC P :=
  onceC mo J2 (by rfl) 1 47 (condOf P 64 0) [138, 136, 118, 117, 83, 81, 63, 62, 39, 35, 34, 29, 14, 11, 6, 2, 1, 0] (mq0_s R39 a b l u rl ru) .normal (mq0_f R39 a b l u rl ru) rfl rfl hw hf [] rfl rfl (by
    cases h : ((decide (cmp3 (tI (W l)) (tI (W rl)) < 0))) with
    | true => exact step_run (fun k => mq0_t R39 a b l u rl ru k) (ps_cons h (ps_cons rfl (ps_cons rfl (ps_cons rfl (ps_cons rfl (ps_cons rfl (ps_cons rfl (ps_cons rfl (ps_cons rfl (ps_cons (by rw [mnW_t h]) (ps_cons (by rw [mnW_t h]) (ps_cons (by rw [mnW_t h]) (ps_cons (by rw [mnW_t h]) (ps_cons rfl (ps_cons rfl (ps_cons rfl (ps_cons rfl (ps_cons rfl (ps_cons rfl (ps_cons rfl (ps_cons rfl (ps_cons rfl (ps_cons rfl (ps_cons rfl (ps_cons rfl (ps_cons rfl (ps_cons rfl (ps_cons rfl (ps_cons rfl ps_nil))))))))))))))))))))))))))))) rfl (fun S1 hk => ⟨rfl, hk⟩)
    | false => exact step_run (fun k => mq0_f' R39 a b l u rl ru k) (ps_cons h (ps_cons rfl (ps_cons rfl (ps_cons rfl (ps_cons rfl (ps_cons rfl (ps_cons rfl (ps_cons rfl (ps_cons rfl (ps_cons (by rw [mnW_f h]) (ps_cons (by rw [mnW_f h]) (ps_cons (by rw [mnW_f h]) (ps_cons (by rw [mnW_f h]) (ps_cons rfl (ps_cons rfl (ps_cons rfl (ps_cons rfl (ps_cons rfl (ps_cons rfl (ps_cons rfl (ps_cons rfl (ps_cons rfl (ps_cons rfl (ps_cons rfl (ps_cons rfl (ps_cons rfl (ps_cons rfl (ps_cons rfl (ps_cons rfl ps_nil))))))))))))))))))))))))))))) rfl (fun S1 hk => ⟨rfl, hk⟩))
def mq1_s (R39 : LoopS) (a b : Iv) (l u rl ru : Int) : St := ⟨[(43, .v (.bool (decide (cmp3 (tI (W u)) (tI (W ru)) > 0)))), (2, .ptr 11 0), (3, .ptr 29 0), (4, .ptr 136 0), (5, .ptr 138 0)], [(0, (.whole (I a), 23)), (1, (.whole (I b), 23)), (2, (.whole (I (⟨0, 0, false⟩)), 23)), (6, (.whole (I (⟨0, 0, false⟩)), 23)), (11, (.parts [.v (.int .u64 (w0 rl)), .v (.int .u64 (w1 rl)), .v (.int .u64 (w2 rl)), .v (.int .u64 (w3 rl)), .v (.int .u64 (w0 ru)), .v (.int .u64 (w1 ru)), .v (.int .u64 (w2 ru)), .v (.int .u64 (w3 ru))], 54)), (14, (.parts [.v (.int .i64 a.lo), .v (.int .i64 a.hi), .v (.bool a.bad), .v (.int .i64 b.lo), .v (.int .i64 b.hi), .v (.bool b.bad)], 23)), (29, (.whole (.bool false), 4)), (34, (.whole (I a), 23)), (35, (.whole (I b), 23)), (136, (.whole (W l), 52)), (138, (.whole (W u), 52))], [(39, R39)], [138, 136, 118, 117, 83, 81, 63, 62, 39, 35, 34, 29, 14, 11, 6, 2, 1, 0], []⟩
def mq1_f (R39 : LoopS) (a b : Iv) (l u rl ru : Int) : St := ⟨[(2, .ptr 11 0), (3, .ptr 29 0), (4, .ptr 136 0), (5, .ptr 138 0)], [(0, (.whole (I a), 23)), (1, (.whole (I b), 23)), (2, (.whole (I (⟨0, 0, false⟩)), 23)), (6, (.whole (I (⟨0, 0, false⟩)), 23)), (11, (.parts [.v (.int .u64 (w0 rl)), .v (.int .u64 (w1 rl)), .v (.int .u64 (w2 rl)), .v (.int .u64 (w3 rl)), .v (.int .u64 (w0 (mxW u ru))), .v (.int .u64 (w1 (mxW u ru))), .v (.int .u64 (w2 (mxW u ru))), .v (.int .u64 (w3 (mxW u ru)))], 54)), (14, (.parts [.v (.int .i64 a.lo), .v (.int .i64 a.hi), .v (.bool a.bad), .v (.int .i64 b.lo), .v (.int .i64 b.hi), .v (.bool b.bad)], 23)), (29, (.whole (.bool false), 4)), (34, (.whole (I a), 23)), (35, (.whole (I b), 23)), (136, (.whole (W l), 52)), (138, (.whole (W u), 52))], [(39, R39)], [138, 136, 118, 117, 83, 81, 63, 62, 39, 35, 34, 29, 14, 11, 6, 2, 1, 0], []⟩
theorem mq1_t (R39 : LoopS) (a b : Iv) (l u rl ru : Int) (k : Nat) : stepF P J2 1 47 (condOf P 64 1) (mq1_s R39 a b l u rl ru) (.b true :: []) 1000 (fun _ => some (mq1_f R39 a b l u rl ru)) k =
  some (.normal, k, [(decide (cmp3 (tI (W u)) (tI (W ru)) > 0)) = true, (.ptr 11 0 : SV) = .ptr 11 0, (.ptr 29 0 : SV) = .ptr 29 0, (.ptr 136 0 : SV) = .ptr 136 0, (.ptr 138 0 : SV) = .ptr 138 0, (I a : Value) = I a, (I b : Value) = I b, (I (⟨0, 0, false⟩) : Value) = I (⟨0, 0, false⟩), (I (⟨0, 0, false⟩) : Value) = I (⟨0, 0, false⟩), (.int .u64 (w0 rl) : Value) = .int .u64 (w0 rl), (.int .u64 (w1 rl) : Value) = .int .u64 (w1 rl), (.int .u64 (w2 rl) : Value) = .int .u64 (w2 rl), (.int .u64 (w3 rl) : Value) = .int .u64 (w3 rl), (.int .u64 (w0 u) : Value) = .int .u64 (w0 (mxW u ru)), (.int .u64 (w1 u) : Value) = .int .u64 (w1 (mxW u ru)), (.int .u64 (w2 u) : Value) = .int .u64 (w2 (mxW u ru)), (.int .u64 (w3 u) : Value) = .int .u64 (w3 (mxW u ru)), (.int .i64 a.lo : Value) = .int .i64 a.lo, (.int .i64 a.hi : Value) = .int .i64 a.hi, (.bool a.bad : Value) = .bool a.bad, (.int .i64 b.lo : Value) = .int .i64 b.lo, (.int .i64 b.hi : Value) = .int .i64 b.hi, (.bool b.bad : Value) = .bool b.bad, (.bool false : Value) = .bool false, (I a : Value) = I a, (I b : Value) = I b, (W l : Value) = W l, (W u : Value) = W u, R39 = R39]) := by kernel_rfl
theorem mq1_f' (R39 : LoopS) (a b : Iv) (l u rl ru : Int) (k : Nat) : stepF P J2 1 47 (condOf P 64 1) (mq1_s R39 a b l u rl ru) (.b false :: []) 1000 (fun _ => some (mq1_f R39 a b l u rl ru)) k =
  some (.normal, k, [(decide (cmp3 (tI (W u)) (tI (W ru)) > 0)) = false, (.ptr 11 0 : SV) = .ptr 11 0, (.ptr 29 0 : SV) = .ptr 29 0, (.ptr 136 0 : SV) = .ptr 136 0, (.ptr 138 0 : SV) = .ptr 138 0, (I a : Value) = I a, (I b : Value) = I b, (I (⟨0, 0, false⟩) : Value) = I (⟨0, 0, false⟩), (I (⟨0, 0, false⟩) : Value) = I (⟨0, 0, false⟩), (.int .u64 (w0 rl) : Value) = .int .u64 (w0 rl), (.int .u64 (w1 rl) : Value) = .int .u64 (w1 rl), (.int .u64 (w2 rl) : Value) = .int .u64 (w2 rl), (.int .u64 (w3 rl) : Value) = .int .u64 (w3 rl), (.int .u64 (w0 ru) : Value) = .int .u64 (w0 (mxW u ru)), (.int .u64 (w1 ru) : Value) = .int .u64 (w1 (mxW u ru)), (.int .u64 (w2 ru) : Value) = .int .u64 (w2 (mxW u ru)), (.int .u64 (w3 ru) : Value) = .int .u64 (w3 (mxW u ru)), (.int .i64 a.lo : Value) = .int .i64 a.lo, (.int .i64 a.hi : Value) = .int .i64 a.hi, (.bool a.bad : Value) = .bool a.bad, (.int .i64 b.lo : Value) = .int .i64 b.lo, (.int .i64 b.hi : Value) = .int .i64 b.hi, (.bool b.bad : Value) = .bool b.bad, (.bool false : Value) = .bool false, (I a : Value) = I a, (I b : Value) = I b, (W l : Value) = W l, (W u : Value) = W u, R39 = R39]) := by kernel_rfl
noncomputable def mq1 (R39 : LoopS) (a b : Iv) (l u rl ru : Int) (hw : wfSt [138, 136, 118, 117, 83, 81, 63, 62, 39, 35, 34, 29, 14, 11, 6, 2, 1, 0] (mq1_s R39 a b l u rl ru) = true) (hf : wfSt [138, 136, 118, 117, 83, 81, 63, 62, 39, 35, 34, 29, 14, 11, 6, 2, 1, 0] (mq1_f R39 a b l u rl ru) = true) : CodeC P :=
  onceC mo J2 (by rfl) 1 47 (condOf P 64 1) [138, 136, 118, 117, 83, 81, 63, 62, 39, 35, 34, 29, 14, 11, 6, 2, 1, 0] (mq1_s R39 a b l u rl ru) .normal (mq1_f R39 a b l u rl ru) rfl rfl hw hf [] rfl rfl (by
    cases h : ((decide (cmp3 (tI (W u)) (tI (W ru)) > 0))) with
    | true => exact step_run (fun k => mq1_t R39 a b l u rl ru k) (ps_cons h (ps_cons rfl (ps_cons rfl (ps_cons rfl (ps_cons rfl (ps_cons rfl (ps_cons rfl (ps_cons rfl (ps_cons rfl (ps_cons rfl (ps_cons rfl (ps_cons rfl (ps_cons rfl (ps_cons (by rw [mxW_t h]) (ps_cons (by rw [mxW_t h]) (ps_cons (by rw [mxW_t h]) (ps_cons (by rw [mxW_t h]) (ps_cons rfl (ps_cons rfl (ps_cons rfl (ps_cons rfl (ps_cons rfl (ps_cons rfl (ps_cons rfl (ps_cons rfl (ps_cons rfl (ps_cons rfl (ps_cons rfl (ps_cons rfl ps_nil))))))))))))))))))))))))))))) rfl (fun S1 hk => ⟨rfl, hk⟩)
    | false => exact step_run (fun k => mq1_f' R39 a b l u rl ru k) (ps_cons h (ps_cons rfl (ps_cons rfl (ps_cons rfl (ps_cons rfl (ps_cons rfl (ps_cons rfl (ps_cons rfl (ps_cons rfl (ps_cons rfl (ps_cons rfl (ps_cons rfl (ps_cons rfl (ps_cons (by rw [mxW_f h]) (ps_cons (by rw [mxW_f h]) (ps_cons (by rw [mxW_f h]) (ps_cons (by rw [mxW_f h]) (ps_cons rfl (ps_cons rfl (ps_cons rfl (ps_cons rfl (ps_cons rfl (ps_cons rfl (ps_cons rfl (ps_cons rfl (ps_cons rfl (ps_cons rfl (ps_cons rfl (ps_cons rfl ps_nil))))))))))))))))))))))))))))) rfl (fun S1 hk => ⟨rfl, hk⟩))
def mq2_s (R39 : LoopS) (a b : Iv) (l u rl ru : Int) : St := ⟨[(33, .v (.bool (decide (cmp3 (tI (W l)) (tI (W rl)) < 0)))), (2, .ptr 11 0), (3, .ptr 29 0), (4, .ptr 197 0), (5, .ptr 199 0)], [(0, (.whole (I a), 23)), (1, (.whole (I b), 23)), (2, (.whole (I (⟨0, 0, false⟩)), 23)), (6, (.whole (I (⟨0, 0, false⟩)), 23)), (11, (.parts [.v (.int .u64 (w0 rl)), .v (.int .u64 (w1 rl)), .v (.int .u64 (w2 rl)), .v (.int .u64 (w3 rl)), .v (.int .u64 (w0 ru)), .v (.int .u64 (w1 ru)), .v (.int .u64 (w2 ru)), .v (.int .u64 (w3 ru))], 54)), (14, (.parts [.v (.int .i64 a.lo), .v (.int .i64 a.hi), .v (.bool a.bad), .v (.int .i64 b.lo), .v (.int .i64 b.hi), .v (.bool b.bad)], 23)), (29, (.whole (.bool false), 4)), (34, (.whole (I a), 23)), (35, (.whole (I b), 23)), (197, (.whole (W l), 52)), (199, (.whole (W u), 52))], [(39, R39)], [199, 197, 179, 178, 138, 136, 118, 117, 83, 81, 63, 62, 39, 35, 34, 29, 14, 11, 6, 2, 1, 0], []⟩
def mq2_f (R39 : LoopS) (a b : Iv) (l u rl ru : Int) : St := ⟨[(2, .ptr 11 0), (3, .ptr 29 0), (4, .ptr 197 0), (5, .ptr 199 0)], [(0, (.whole (I a), 23)), (1, (.whole (I b), 23)), (2, (.whole (I (⟨0, 0, false⟩)), 23)), (6, (.whole (I (⟨0, 0, false⟩)), 23)), (11, (.parts [.v (.int .u64 (w0 (mnW l rl))), .v (.int .u64 (w1 (mnW l rl))), .v (.int .u64 (w2 (mnW l rl))), .v (.int .u64 (w3 (mnW l rl))), .v (.int .u64 (w0 ru)), .v (.int .u64 (w1 ru)), .v (.int .u64 (w2 ru)), .v (.int .u64 (w3 ru))], 54)), (14, (.parts [.v (.int .i64 a.lo), .v (.int .i64 a.hi), .v (.bool a.bad), .v (.int .i64 b.lo), .v (.int .i64 b.hi), .v (.bool b.bad)], 23)), (29, (.whole (.bool false), 4)), (34, (.whole (I a), 23)), (35, (.whole (I b), 23)), (197, (.whole (W l), 52)), (199, (.whole (W u), 52))], [(39, R39)], [199, 197, 179, 178, 138, 136, 118, 117, 83, 81, 63, 62, 39, 35, 34, 29, 14, 11, 6, 2, 1, 0], []⟩
theorem mq2_t (R39 : LoopS) (a b : Iv) (l u rl ru : Int) (k : Nat) : stepF P J2 1 47 (condOf P 64 0) (mq2_s R39 a b l u rl ru) (.b true :: []) 1000 (fun _ => some (mq2_f R39 a b l u rl ru)) k =
  some (.normal, k, [(decide (cmp3 (tI (W l)) (tI (W rl)) < 0)) = true, (.ptr 11 0 : SV) = .ptr 11 0, (.ptr 29 0 : SV) = .ptr 29 0, (.ptr 197 0 : SV) = .ptr 197 0, (.ptr 199 0 : SV) = .ptr 199 0, (I a : Value) = I a, (I b : Value) = I b, (I (⟨0, 0, false⟩) : Value) = I (⟨0, 0, false⟩), (I (⟨0, 0, false⟩) : Value) = I (⟨0, 0, false⟩), (.int .u64 (w0 l) : Value) = .int .u64 (w0 (mnW l rl)), (.int .u64 (w1 l) : Value) = .int .u64 (w1 (mnW l rl)), (.int .u64 (w2 l) : Value) = .int .u64 (w2 (mnW l rl)), (.int .u64 (w3 l) : Value) = .int .u64 (w3 (mnW l rl)), (.int .u64 (w0 ru) : Value) = .int .u64 (w0 ru), (.int .u64 (w1 ru) : Value) = .int .u64 (w1 ru), (.int .u64 (w2 ru) : Value) = .int .u64 (w2 ru), (.int .u64 (w3 ru) : Value) = .int .u64 (w3 ru), (.int .i64 a.lo : Value) = .int .i64 a.lo, (.int .i64 a.hi : Value) = .int .i64 a.hi, (.bool a.bad : Value) = .bool a.bad, (.int .i64 b.lo : Value) = .int .i64 b.lo, (.int .i64 b.hi : Value) = .int .i64 b.hi, (.bool b.bad : Value) = .bool b.bad, (.bool false : Value) = .bool false, (I a : Value) = I a, (I b : Value) = I b, (W l : Value) = W l, (W u : Value) = W u, R39 = R39]) := by kernel_rfl
theorem mq2_f' (R39 : LoopS) (a b : Iv) (l u rl ru : Int) (k : Nat) : stepF P J2 1 47 (condOf P 64 0) (mq2_s R39 a b l u rl ru) (.b false :: []) 1000 (fun _ => some (mq2_f R39 a b l u rl ru)) k =
  some (.normal, k, [(decide (cmp3 (tI (W l)) (tI (W rl)) < 0)) = false, (.ptr 11 0 : SV) = .ptr 11 0, (.ptr 29 0 : SV) = .ptr 29 0, (.ptr 197 0 : SV) = .ptr 197 0, (.ptr 199 0 : SV) = .ptr 199 0, (I a : Value) = I a, (I b : Value) = I b, (I (⟨0, 0, false⟩) : Value) = I (⟨0, 0, false⟩), (I (⟨0, 0, false⟩) : Value) = I (⟨0, 0, false⟩), (.int .u64 (w0 rl) : Value) = .int .u64 (w0 (mnW l rl)), (.int .u64 (w1 rl) : Value) = .int .u64 (w1 (mnW l rl)), (.int .u64 (w2 rl) : Value) = .int .u64 (w2 (mnW l rl)), (.int .u64 (w3 rl) : Value) = .int .u64 (w3 (mnW l rl)), (.int .u64 (w0 ru) : Value) = .int .u64 (w0 ru), (.int .u64 (w1 ru) : Value) = .int .u64 (w1 ru), (.int .u64 (w2 ru) : Value) = .int .u64 (w2 ru), (.int .u64 (w3 ru) : Value) = .int .u64 (w3 ru), (.int .i64 a.lo : Value) = .int .i64 a.lo, (.int .i64 a.hi : Value) = .int .i64 a.hi, (.bool a.bad : Value) = .bool a.bad, (.int .i64 b.lo : Value) = .int .i64 b.lo, (.int .i64 b.hi : Value) = .int .i64 b.hi, (.bool b.bad : Value) = .bool b.bad, (.bool false : Value) = .bool false, (I a : Value) = I a, (I b : Value) = I b, (W l : Value) = W l, (W u : Value) = W u, R39 = R39]) := by kernel_rfl
noncomputable def mq2 (R39 : LoopS) (a b : Iv) (l u rl ru : Int) (hw : wfSt [199, 197, 179, 178, 138, 136, 118, 117, 83, 81, 63, 62, 39, 35, 34, 29, 14, 11, 6, 2, 1, 0] (mq2_s R39 a b l u rl ru) = true) (hf : wfSt [199, 197, 179, 178, 138, 136, 118, 117, 83, 81, 63, 62, 39, 35, 34, 29, 14, 11, 6, 2, 1, 0] (mq2_f R39 a b l u rl ru) = true) : CodeC P :=
  onceC mo J2 (by rfl) 1 47 (condOf P 64 0) [199, 197, 179, 178, 138, 136, 118, 117, 83, 81, 63, 62, 39, 35, 34, 29, 14, 11, 6, 2, 1, 0] (mq2_s R39 a b l u rl ru) .normal (mq2_f R39 a b l u rl ru) rfl rfl hw hf [] rfl rfl (by
    cases h : ((decide (cmp3 (tI (W l)) (tI (W rl)) < 0))) with
    | true => exact step_run (fun k => mq2_t R39 a b l u rl ru k) (ps_cons h (ps_cons rfl (ps_cons rfl (ps_cons rfl (ps_cons rfl (ps_cons rfl (ps_cons rfl (ps_cons rfl (ps_cons rfl (ps_cons (by rw [mnW_t h]) (ps_cons (by rw [mnW_t h]) (ps_cons (by rw [mnW_t h]) (ps_cons (by rw [mnW_t h]) (ps_cons rfl (ps_cons rfl (ps_cons rfl (ps_cons rfl (ps_cons rfl (ps_cons rfl (ps_cons rfl (ps_cons rfl (ps_cons rfl (ps_cons rfl (ps_cons rfl (ps_cons rfl (ps_cons rfl (ps_cons rfl (ps_cons rfl (ps_cons rfl ps_nil))))))))))))))))))))))))))))) rfl (fun S1 hk => ⟨rfl, hk⟩)
    | false => exact step_run (fun k => mq2_f' R39 a b l u rl ru k) (ps_cons h (ps_cons rfl (ps_cons rfl (ps_cons rfl (ps_cons rfl (ps_cons rfl (ps_cons rfl (ps_cons rfl (ps_cons rfl (ps_cons (by rw [mnW_f h]) (ps_cons (by rw [mnW_f h]) (ps_cons (by rw [mnW_f h]) (ps_cons (by rw [mnW_f h]) (ps_cons rfl (ps_cons rfl (ps_cons rfl (ps_cons rfl (ps_cons rfl (ps_cons rfl (ps_cons rfl (ps_cons rfl (ps_cons rfl (ps_cons rfl (ps_cons rfl (ps_cons rfl (ps_cons rfl (ps_cons rfl (ps_cons rfl (ps_cons rfl ps_nil))))))))))))))))))))))))))))) rfl (fun S1 hk => ⟨rfl, hk⟩))
def mq3_s (R39 : LoopS) (a b : Iv) (l u rl ru : Int) : St := ⟨[(43, .v (.bool (decide (cmp3 (tI (W u)) (tI (W ru)) > 0)))), (2, .ptr 11 0), (3, .ptr 29 0), (4, .ptr 197 0), (5, .ptr 199 0)], [(0, (.whole (I a), 23)), (1, (.whole (I b), 23)), (2, (.whole (I (⟨0, 0, false⟩)), 23)), (6, (.whole (I (⟨0, 0, false⟩)), 23)), (11, (.parts [.v (.int .u64 (w0 rl)), .v (.int .u64 (w1 rl)), .v (.int .u64 (w2 rl)), .v (.int .u64 (w3 rl)), .v (.int .u64 (w0 ru)), .v (.int .u64 (w1 ru)), .v (.int .u64 (w2 ru)), .v (.int .u64 (w3 ru))], 54)), (14, (.parts [.v (.int .i64 a.lo), .v (.int .i64 a.hi), .v (.bool a.bad), .v (.int .i64 b.lo), .v (.int .i64 b.hi), .v (.bool b.bad)], 23)), (29, (.whole (.bool false), 4)), (34, (.whole (I a), 23)), (35, (.whole (I b), 23)), (197, (.whole (W l), 52)), (199, (.whole (W u), 52))], [(39, R39)], [199, 197, 179, 178, 138, 136, 118, 117, 83, 81, 63, 62, 39, 35, 34, 29, 14, 11, 6, 2, 1, 0], []⟩
def mq3_f (R39 : LoopS) (a b : Iv) (l u rl ru : Int) : St := ⟨[(2, .ptr 11 0), (3, .ptr 29 0), (4, .ptr 197 0), (5, .ptr 199 0)], [(0, (.whole (I a), 23)), (1, (.whole (I b), 23)), (2, (.whole (I (⟨0, 0, false⟩)), 23)), (6, (.whole (I (⟨0, 0, false⟩)), 23)), (11, (.parts [.v (.int .u64 (w0 rl)), .v (.int .u64 (w1 rl)), .v (.int .u64 (w2 rl)), .v (.int .u64 (w3 rl)), .v (.int .u64 (w0 (mxW u ru))), .v (.int .u64 (w1 (mxW u ru))), .v (.int .u64 (w2 (mxW u ru))), .v (.int .u64 (w3 (mxW u ru)))], 54)), (14, (.parts [.v (.int .i64 a.lo), .v (.int .i64 a.hi), .v (.bool a.bad), .v (.int .i64 b.lo), .v (.int .i64 b.hi), .v (.bool b.bad)], 23)), (29, (.whole (.bool false), 4)), (34, (.whole (I a), 23)), (35, (.whole (I b), 23)), (197, (.whole (W l), 52)), (199, (.whole (W u), 52))], [(39, R39)], [199, 197, 179, 178, 138, 136, 118, 117, 83, 81, 63, 62, 39, 35, 34, 29, 14, 11, 6, 2, 1, 0], []⟩
theorem mq3_t (R39 : LoopS) (a b : Iv) (l u rl ru : Int) (k : Nat) : stepF P J2 1 47 (condOf P 64 1) (mq3_s R39 a b l u rl ru) (.b true :: []) 1000 (fun _ => some (mq3_f R39 a b l u rl ru)) k =
  some (.normal, k, [(decide (cmp3 (tI (W u)) (tI (W ru)) > 0)) = true, (.ptr 11 0 : SV) = .ptr 11 0, (.ptr 29 0 : SV) = .ptr 29 0, (.ptr 197 0 : SV) = .ptr 197 0, (.ptr 199 0 : SV) = .ptr 199 0, (I a : Value) = I a, (I b : Value) = I b, (I (⟨0, 0, false⟩) : Value) = I (⟨0, 0, false⟩), (I (⟨0, 0, false⟩) : Value) = I (⟨0, 0, false⟩), (.int .u64 (w0 rl) : Value) = .int .u64 (w0 rl), (.int .u64 (w1 rl) : Value) = .int .u64 (w1 rl), (.int .u64 (w2 rl) : Value) = .int .u64 (w2 rl), (.int .u64 (w3 rl) : Value) = .int .u64 (w3 rl), (.int .u64 (w0 u) : Value) = .int .u64 (w0 (mxW u ru)), (.int .u64 (w1 u) : Value) = .int .u64 (w1 (mxW u ru)), (.int .u64 (w2 u) : Value) = .int .u64 (w2 (mxW u ru)), (.int .u64 (w3 u) : Value) = .int .u64 (w3 (mxW u ru)), (.int .i64 a.lo : Value) = .int .i64 a.lo, (.int .i64 a.hi : Value) = .int .i64 a.hi, (.bool a.bad : Value) = .bool a.bad, (.int .i64 b.lo : Value) = .int .i64 b.lo, (.int .i64 b.hi : Value) = .int .i64 b.hi, (.bool b.bad : Value) = .bool b.bad, (.bool false : Value) = .bool false, (I a : Value) = I a, (I b : Value) = I b, (W l : Value) = W l, (W u : Value) = W u, R39 = R39]) := by kernel_rfl
theorem mq3_f' (R39 : LoopS) (a b : Iv) (l u rl ru : Int) (k : Nat) : stepF P J2 1 47 (condOf P 64 1) (mq3_s R39 a b l u rl ru) (.b false :: []) 1000 (fun _ => some (mq3_f R39 a b l u rl ru)) k =
  some (.normal, k, [(decide (cmp3 (tI (W u)) (tI (W ru)) > 0)) = false, (.ptr 11 0 : SV) = .ptr 11 0, (.ptr 29 0 : SV) = .ptr 29 0, (.ptr 197 0 : SV) = .ptr 197 0, (.ptr 199 0 : SV) = .ptr 199 0, (I a : Value) = I a, (I b : Value) = I b, (I (⟨0, 0, false⟩) : Value) = I (⟨0, 0, false⟩), (I (⟨0, 0, false⟩) : Value) = I (⟨0, 0, false⟩), (.int .u64 (w0 rl) : Value) = .int .u64 (w0 rl), (.int .u64 (w1 rl) : Value) = .int .u64 (w1 rl), (.int .u64 (w2 rl) : Value) = .int .u64 (w2 rl), (.int .u64 (w3 rl) : Value) = .int .u64 (w3 rl), (.int .u64 (w0 ru) : Value) = .int .u64 (w0 (mxW u ru)), (.int .u64 (w1 ru) : Value) = .int .u64 (w1 (mxW u ru)), (.int .u64 (w2 ru) : Value) = .int .u64 (w2 (mxW u ru)), (.int .u64 (w3 ru) : Value) = .int .u64 (w3 (mxW u ru)), (.int .i64 a.lo : Value) = .int .i64 a.lo, (.int .i64 a.hi : Value) = .int .i64 a.hi, (.bool a.bad : Value) = .bool a.bad, (.int .i64 b.lo : Value) = .int .i64 b.lo, (.int .i64 b.hi : Value) = .int .i64 b.hi, (.bool b.bad : Value) = .bool b.bad, (.bool false : Value) = .bool false, (I a : Value) = I a, (I b : Value) = I b, (W l : Value) = W l, (W u : Value) = W u, R39 = R39]) := by kernel_rfl
noncomputable def mq3 (R39 : LoopS) (a b : Iv) (l u rl ru : Int) (hw : wfSt [199, 197, 179, 178, 138, 136, 118, 117, 83, 81, 63, 62, 39, 35, 34, 29, 14, 11, 6, 2, 1, 0] (mq3_s R39 a b l u rl ru) = true) (hf : wfSt [199, 197, 179, 178, 138, 136, 118, 117, 83, 81, 63, 62, 39, 35, 34, 29, 14, 11, 6, 2, 1, 0] (mq3_f R39 a b l u rl ru) = true) : CodeC P :=
  onceC mo J2 (by rfl) 1 47 (condOf P 64 1) [199, 197, 179, 178, 138, 136, 118, 117, 83, 81, 63, 62, 39, 35, 34, 29, 14, 11, 6, 2, 1, 0] (mq3_s R39 a b l u rl ru) .normal (mq3_f R39 a b l u rl ru) rfl rfl hw hf [] rfl rfl (by
    cases h : ((decide (cmp3 (tI (W u)) (tI (W ru)) > 0))) with
    | true => exact step_run (fun k => mq3_t R39 a b l u rl ru k) (ps_cons h (ps_cons rfl (ps_cons rfl (ps_cons rfl (ps_cons rfl (ps_cons rfl (ps_cons rfl (ps_cons rfl (ps_cons rfl (ps_cons rfl (ps_cons rfl (ps_cons rfl (ps_cons rfl (ps_cons (by rw [mxW_t h]) (ps_cons (by rw [mxW_t h]) (ps_cons (by rw [mxW_t h]) (ps_cons (by rw [mxW_t h]) (ps_cons rfl (ps_cons rfl (ps_cons rfl (ps_cons rfl (ps_cons rfl (ps_cons rfl (ps_cons rfl (ps_cons rfl (ps_cons rfl (ps_cons rfl (ps_cons rfl (ps_cons rfl ps_nil))))))))))))))))))))))))))))) rfl (fun S1 hk => ⟨rfl, hk⟩)
    | false => exact step_run (fun k => mq3_f' R39 a b l u rl ru k) (ps_cons h (ps_cons rfl (ps_cons rfl (ps_cons rfl (ps_cons rfl (ps_cons rfl (ps_cons rfl (ps_cons rfl (ps_cons rfl (ps_cons rfl (ps_cons rfl (ps_cons rfl (ps_cons rfl (ps_cons (by rw [mxW_f h]) (ps_cons (by rw [mxW_f h]) (ps_cons (by rw [mxW_f h]) (ps_cons (by rw [mxW_f h]) (ps_cons rfl (ps_cons rfl (ps_cons rfl (ps_cons rfl (ps_cons rfl (ps_cons rfl (ps_cons rfl (ps_cons rfl (ps_cons rfl (ps_cons rfl (ps_cons rfl (ps_cons rfl ps_nil))))))))))))))))))))))))))))) rfl (fun S1 hk => ⟨rfl, hk⟩))
def mq4_s (R39 : LoopS) (a b : Iv) (l u rl ru : Int) : St := ⟨[(33, .v (.bool (decide (cmp3 (tI (W l)) (tI (W rl)) < 0)))), (2, .ptr 11 0), (3, .ptr 29 0), (4, .ptr 246 0), (5, .ptr 248 0)], [(0, (.whole (I a), 23)), (1, (.whole (I b), 23)), (2, (.whole (I (⟨0, 0, false⟩)), 23)), (6, (.whole (I (⟨0, 0, false⟩)), 23)), (11, (.parts [.v (.int .u64 (w0 rl)), .v (.int .u64 (w1 rl)), .v (.int .u64 (w2 rl)), .v (.int .u64 (w3 rl)), .v (.int .u64 (w0 ru)), .v (.int .u64 (w1 ru)), .v (.int .u64 (w2 ru)), .v (.int .u64 (w3 ru))], 54)), (14, (.parts [.v (.int .i64 a.lo), .v (.int .i64 a.hi), .v (.bool a.bad), .v (.int .i64 b.lo), .v (.int .i64 b.hi), .v (.bool b.bad)], 23)), (29, (.whole (.bool false), 4)), (34, (.whole (I a), 23)), (35, (.whole (I b), 23)), (246, (.whole (W l), 52)), (248, (.whole (W u), 52))], [(39, R39)], [248, 246, 228, 227, 199, 197, 179, 178, 138, 136, 118, 117, 83, 81, 63, 62, 39, 35, 34, 29, 14, 11, 6, 2, 1, 0], []⟩
def mq4_f (R39 : LoopS) (a b : Iv) (l u rl ru : Int) : St := ⟨[(2, .ptr 11 0), (3, .ptr 29 0), (4, .ptr 246 0), (5, .ptr 248 0)], [(0, (.whole (I a), 23)), (1, (.whole (I b), 23)), (2, (.whole (I (⟨0, 0, false⟩)), 23)), (6, (.whole (I (⟨0, 0, false⟩)), 23)), (11, (.parts [.v (.int .u64 (w0 (mnW l rl))), .v (.int .u64 (w1 (mnW l rl))), .v (.int .u64 (w2 (mnW l rl))), .v (.int .u64 (w3 (mnW l rl))), .v (.int .u64 (w0 ru)), .v (.int .u64 (w1 ru)), .v (.int .u64 (w2 ru)), .v (.int .u64 (w3 ru))], 54)), (14, (.parts [.v (.int .i64 a.lo), .v (.int .i64 a.hi), .v (.bool a.bad), .v (.int .i64 b.lo), .v (.int .i64 b.hi), .v (.bool b.bad)], 23)), (29, (.whole (.bool false), 4)), (34, (.whole (I a), 23)), (35, (.whole (I b), 23)), (246, (.whole (W l), 52)), (248, (.whole (W u), 52))], [(39, R39)], [248, 246, 228, 227, 199, 197, 179, 178, 138, 136, 118, 117, 83, 81, 63, 62, 39, 35, 34, 29, 14, 11, 6, 2, 1, 0], []⟩
theorem mq4_t (R39 : LoopS) (a b : Iv) (l u rl ru : Int) (k : Nat) : stepF P J2 1 47 (condOf P 64 0) (mq4_s R39 a b l u rl ru) (.b true :: []) 1000 (fun _ => some (mq4_f R39 a b l u rl ru)) k =
  some (.normal, k, [(decide (cmp3 (tI (W l)) (tI (W rl)) < 0)) = true, (.ptr 11 0 : SV) = .ptr 11 0, (.ptr 29 0 : SV) = .ptr 29 0, (.ptr 246 0 : SV) = .ptr 246 0, (.ptr 248 0 : SV) = .ptr 248 0, (I a : Value) = I a, (I b : Value) = I b, (I (⟨0, 0, false⟩) : Value) = I (⟨0, 0, false⟩), (I (⟨0, 0, false⟩) : Value) = I (⟨0, 0, false⟩), (.int .u64 (w0 l) : Value) = .int .u64 (w0 (mnW l rl)), (.int .u64 (w1 l) : Value) = .int .u64 (w1 (mnW l rl)), (.int .u64 (w2 l) : Value) = .int .u64 (w2 (mnW l rl)), (.int .u64 (w3 l) : Value) = .int .u64 (w3 (mnW l rl)), (.int .u64 (w0 ru) : Value) = .int .u64 (w0 ru), (.int .u64 (w1 ru) : Value) = .int .u64 (w1 ru), (.int .u64 (w2 ru) : Value) = .int .u64 (w2 ru), (.int .u64 (w3 ru) : Value) = .int .u64 (w3 ru), (.int .i64 a.lo : Value) = .int .i64 a.lo, (.int .i64 a.hi : Value) = .int .i64 a.hi, (.bool a.bad : Value) = .bool a.bad, (.int .i64 b.lo : Value) = .int .i64 b.lo, (.int .i64 b.hi : Value) = .int .i64 b.hi, (.bool b.bad : Value) = .bool b.bad, (.bool false : Value) = .bool false, (I a : Value) = I a, (I b : Value) = I b, (W l : Value) = W l, (W u : Value) = W u, R39 = R39]) := by kernel_rfl
theorem mq4_f' (R39 : LoopS) (a b : Iv) (l u rl ru : Int) (k : Nat) : stepF P J2 1 47 (condOf P 64 0) (mq4_s R39 a b l u rl ru) (.b false :: []) 1000 (fun _ => some (mq4_f R39 a b l u rl ru)) k =
  some (.normal, k, [(decide (cmp3 (tI (W l)) (tI (W rl)) < 0)) = false, (.ptr 11 0 : SV) = .ptr 11 0, (.ptr 29 0 : SV) = .ptr 29 0, (.ptr 246 0 : SV) = .ptr 246 0, (.ptr 248 0 : SV) = .ptr 248 0, (I a : Value) = I a, (I b : Value) = I b, (I (⟨0, 0, false⟩) : Value) = I (⟨0, 0, false⟩), (I (⟨0, 0, false⟩) : Value) = I (⟨0, 0, false⟩), (.int .u64 (w0 rl) : Value) = .int .u64 (w0 (mnW l rl)), (.int .u64 (w1 rl) : Value) = .int .u64 (w1 (mnW l rl)), (.int .u64 (w2 rl) : Value) = .int .u64 (w2 (mnW l rl)), (.int .u64 (w3 rl) : Value) = .int .u64 (w3 (mnW l rl)), (.int .u64 (w0 ru) : Value) = .int .u64 (w0 ru), (.int .u64 (w1 ru) : Value) = .int .u64 (w1 ru), (.int .u64 (w2 ru) : Value) = .int .u64 (w2 ru), (.int .u64 (w3 ru) : Value) = .int .u64 (w3 ru), (.int .i64 a.lo : Value) = .int .i64 a.lo, (.int .i64 a.hi : Value) = .int .i64 a.hi, (.bool a.bad : Value) = .bool a.bad, (.int .i64 b.lo : Value) = .int .i64 b.lo, (.int .i64 b.hi : Value) = .int .i64 b.hi, (.bool b.bad : Value) = .bool b.bad, (.bool false : Value) = .bool false, (I a : Value) = I a, (I b : Value) = I b, (W l : Value) = W l, (W u : Value) = W u, R39 = R39]) := by kernel_rfl
noncomputable def mq4 (R39 : LoopS) (a b : Iv) (l u rl ru : Int) (hw : wfSt [248, 246, 228, 227, 199, 197, 179, 178, 138, 136, 118, 117, 83, 81, 63, 62, 39, 35, 34, 29, 14, 11, 6, 2, 1, 0] (mq4_s R39 a b l u rl ru) = true) (hf : wfSt [248, 246, 228, 227, 199, 197, 179, 178, 138, 136, 118, 117, 83, 81, 63, 62, 39, 35, 34, 29, 14, 11, 6, 2, 1, 0] (mq4_f R39 a b l u rl ru) = true) : CodeC P :=
  onceC mo J2 (by rfl) 1 47 (condOf P 64 0) [248, 246, 228, 227, 199, 197, 179, 178, 138, 136, 118, 117, 83, 81, 63, 62, 39, 35, 34, 29, 14, 11, 6, 2, 1, 0] (mq4_s R39 a b l u rl ru) .normal (mq4_f R39 a b l u rl ru) rfl rfl hw hf [] rfl rfl (by
    cases h : ((decide (cmp3 (tI (W l)) (tI (W rl)) < 0))) with
    | true => exact step_run (fun k => mq4_t R39 a b l u rl ru k) (ps_cons h (ps_cons rfl (ps_cons rfl (ps_cons rfl (ps_cons rfl (ps_cons rfl (ps_cons rfl (ps_cons rfl (ps_cons rfl (ps_cons (by rw [mnW_t h]) (ps_cons (by rw [mnW_t h]) (ps_cons (by rw [mnW_t h]) (ps_cons (by rw [mnW_t h]) (ps_cons rfl (ps_cons rfl (ps_cons rfl (ps_cons rfl (ps_cons rfl (ps_cons rfl (ps_cons rfl (ps_cons rfl (ps_cons rfl (ps_cons rfl (ps_cons rfl (ps_cons rfl (ps_cons rfl (ps_cons rfl (ps_cons rfl (ps_cons rfl ps_nil))))))))))))))))))))))))))))) rfl (fun S1 hk => ⟨rfl, hk⟩)
    | false => exact step_run (fun k => mq4_f' R39 a b l u rl ru k) (ps_cons h (ps_cons rfl (ps_cons rfl (ps_cons rfl (ps_cons rfl (ps_cons rfl (ps_cons rfl (ps_cons rfl (ps_cons rfl (ps_cons (by rw [mnW_f h]) (ps_cons (by rw [mnW_f h]) (ps_cons (by rw [mnW_f h]) (ps_cons (by rw [mnW_f h]) (ps_cons rfl (ps_cons rfl (ps_cons rfl (ps_cons rfl (ps_cons rfl (ps_cons rfl (ps_cons rfl (ps_cons rfl (ps_cons rfl (ps_cons rfl (ps_cons rfl (ps_cons rfl (ps_cons rfl (ps_cons rfl (ps_cons rfl (ps_cons rfl ps_nil))))))))))))))))))))))))))))) rfl (fun S1 hk => ⟨rfl, hk⟩))
def mq5_s (R39 : LoopS) (a b : Iv) (l u rl ru : Int) : St := ⟨[(43, .v (.bool (decide (cmp3 (tI (W u)) (tI (W ru)) > 0)))), (2, .ptr 11 0), (3, .ptr 29 0), (4, .ptr 246 0), (5, .ptr 248 0)], [(0, (.whole (I a), 23)), (1, (.whole (I b), 23)), (2, (.whole (I (⟨0, 0, false⟩)), 23)), (6, (.whole (I (⟨0, 0, false⟩)), 23)), (11, (.parts [.v (.int .u64 (w0 rl)), .v (.int .u64 (w1 rl)), .v (.int .u64 (w2 rl)), .v (.int .u64 (w3 rl)), .v (.int .u64 (w0 ru)), .v (.int .u64 (w1 ru)), .v (.int .u64 (w2 ru)), .v (.int .u64 (w3 ru))], 54)), (14, (.parts [.v (.int .i64 a.lo), .v (.int .i64 a.hi), .v (.bool a.bad), .v (.int .i64 b.lo), .v (.int .i64 b.hi), .v (.bool b.bad)], 23)), (29, (.whole (.bool false), 4)), (34, (.whole (I a), 23)), (35, (.whole (I b), 23)), (246, (.whole (W l), 52)), (248, (.whole (W u), 52))], [(39, R39)], [248, 246, 228, 227, 199, 197, 179, 178, 138, 136, 118, 117, 83, 81, 63, 62, 39, 35, 34, 29, 14, 11, 6, 2, 1, 0], []⟩
def mq5_f (R39 : LoopS) (a b : Iv) (l u rl ru : Int) : St := ⟨[(2, .ptr 11 0), (3, .ptr 29 0), (4, .ptr 246 0), (5, .ptr 248 0)], [(0, (.whole (I a), 23)), (1, (.whole (I b), 23)), (2, (.whole (I (⟨0, 0, false⟩)), 23)), (6, (.whole (I (⟨0, 0, false⟩)), 23)), (11, (.parts [.v (.int .u64 (w0 rl)), .v (.int .u64 (w1 rl)), .v (.int .u64 (w2 rl)), .v (.int .u64 (w3 rl)), .v (.int .u64 (w0 (mxW u ru))), .v (.int .u64 (w1 (mxW u ru))), .v (.int .u64 (w2 (mxW u ru))), .v (.int .u64 (w3 (mxW u ru)))], 54)), (14, (.parts [.v (.int .i64 a.lo), .v (.int .i64 a.hi), .v (.bool a.bad), .v (.int .i64 b.lo), .v (.int .i64 b.hi), .v (.bool b.bad)], 23)), (29, (.whole (.bool false), 4)), (34, (.whole (I a), 23)), (35, (.whole (I b), 23)), (246, (.whole (W l), 52)), (248, (.whole (W u), 52))], [(39, R39)], [248, 246, 228, 227, 199, 197, 179, 178, 138, 136, 118, 117, 83, 81, 63, 62, 39, 35, 34, 29, 14, 11, 6, 2, 1, 0], []⟩
theorem mq5_t (R39 : LoopS) (a b : Iv) (l u rl ru : Int) (k : Nat) : stepF P J2 1 47 (condOf P 64 1) (mq5_s R39 a b l u rl ru) (.b true :: []) 1000 (fun _ => some (mq5_f R39 a b l u rl ru)) k =
  some (.normal, k, [(decide (cmp3 (tI (W u)) (tI (W ru)) > 0)) = true, (.ptr 11 0 : SV) = .ptr 11 0, (.ptr 29 0 : SV) = .ptr 29 0, (.ptr 246 0 : SV) = .ptr 246 0, (.ptr 248 0 : SV) = .ptr 248 0, (I a : Value) = I a, (I b : Value) = I b, (I (⟨0, 0, false⟩) : Value) = I (⟨0, 0, false⟩), (I (⟨0, 0, false⟩) : Value) = I (⟨0, 0, false⟩), (.int .u64 (w0 rl) : Value) = .int .u64 (w0 rl), (.int .u64 (w1 rl) : Value) = .int .u64 (w1 rl), (.int .u64 (w2 rl) : Value) = .int .u64 (w2 rl), (.int .u64 (w3 rl) : Value) = .int .u64 (w3 rl), (.int .u64 (w0 u) : Value) = .int .u64 (w0 (mxW u ru)), (.int .u64 (w1 u) : Value) = .int .u64 (w1 (mxW u ru)), (.int .u64 (w2 u) : Value) = .int .u64 (w2 (mxW u ru)), (.int .u64 (w3 u) : Value) = .int .u64 (w3 (mxW u ru)), (.int .i64 a.lo : Value) = .int .i64 a.lo, (.int .i64 a.hi : Value) = .int .i64 a.hi, (.bool a.bad : Value) = .bool a.bad, (.int .i64 b.lo : Value) = .int .i64 b.lo, (.int .i64 b.hi : Value) = .int .i64 b.hi, (.bool b.bad : Value) = .bool b.bad, (.bool false : Value) = .bool false, (I a : Value) = I a, (I b : Value) = I b, (W l : Value) = W l, (W u : Value) = W u, R39 = R39]) := by kernel_rfl
theorem mq5_f' (R39 : LoopS) (a b : Iv) (l u rl ru : Int) (k : Nat) : stepF P J2 1 47 (condOf P 64 1) (mq5_s R39 a b l u rl ru) (.b false :: []) 1000 (fun _ => some (mq5_f R39 a b l u rl ru)) k =
  some (.normal, k, [(decide (cmp3 (tI (W u)) (tI (W ru)) > 0)) = false, (.ptr 11 0 : SV) = .ptr 11 0, (.ptr 29 0 : SV) = .ptr 29 0, (.ptr 246 0 : SV) = .ptr 246 0, (.ptr 248 0 : SV) = .ptr 248 0, (I a : Value) = I a, (I b : Value) = I b, (I (⟨0, 0, false⟩) : Value) = I (⟨0, 0, false⟩), (I (⟨0, 0, false⟩) : Value) = I (⟨0, 0, false⟩), (.int .u64 (w0 rl) : Value) = .int .u64 (w0 rl), (.int .u64 (w1 rl) : Value) = .int .u64 (w1 rl), (.int .u64 (w2 rl) : Value) = .int .u64 (w2 rl), (.int .u64 (w3 rl) : Value) = .int .u64 (w3 rl), (.int .u64 (w0 ru) : Value) = .int .u64 (w0 (mxW u ru)), (.int .u64 (w1 ru) : Value) = .int .u64 (w1 (mxW u ru)), (.int .u64 (w2 ru) : Value) = .int .u64 (w2 (mxW u ru)), (.int .u64 (w3 ru) : Value) = .int .u64 (w3 (mxW u ru)), (.int .i64 a.lo : Value) = .int .i64 a.lo, (.int .i64 a.hi : Value) = .int .i64 a.hi, (.bool a.bad : Value) = .bool a.bad, (.int .i64 b.lo : Value) = .int .i64 b.lo, (.int .i64 b.hi : Value) = .int .i64 b.hi, (.bool b.bad : Value) = .bool b.bad, (.bool false : Value) = .bool false, (I a : Value) = I a, (I b : Value) = I b, (W l : Value) = W l, (W u : Value) = W u, R39 = R39]) := by kernel_rfl
noncomputable def mq5 (R39 : LoopS) (a b : Iv) (l u rl ru : Int) (hw : wfSt [248, 246, 228, 227, 199, 197, 179, 178, 138, 136, 118, 117, 83, 81, 63, 62, 39, 35, 34, 29, 14, 11, 6, 2, 1, 0] (mq5_s R39 a b l u rl ru) = true) (hf : wfSt [248, 246, 228, 227, 199, 197, 179, 178, 138, 136, 118, 117, 83, 81, 63, 62, 39, 35, 34, 29, 14, 11, 6, 2, 1, 0] (mq5_f R39 a b l u rl ru) = true) : CodeC P :=
  onceC mo J2 (by rfl) 1 47 (condOf P 64 1) [248, 246, 228, 227, 199, 197, 179, 178, 138, 136, 118, 117, 83, 81, 63, 62, 39, 35, 34, 29, 14, 11, 6, 2, 1, 0] (mq5_s R39 a b l u rl ru) .normal (mq5_f R39 a b l u rl ru) rfl rfl hw hf [] rfl rfl (by
    cases h : ((decide (cmp3 (tI (W u)) (tI (W ru)) > 0))) with
    | true => exact step_run (fun k => mq5_t R39 a b l u rl ru k) (ps_cons h (ps_cons rfl (ps_cons rfl (ps_cons rfl (ps_cons rfl (ps_cons rfl (ps_cons rfl (ps_cons rfl (ps_cons rfl (ps_cons rfl (ps_cons rfl (ps_cons rfl (ps_cons rfl (ps_cons (by rw [mxW_t h]) (ps_cons (by rw [mxW_t h]) (ps_cons (by rw [mxW_t h]) (ps_cons (by rw [mxW_t h]) (ps_cons rfl (ps_cons rfl (ps_cons rfl (ps_cons rfl (ps_cons rfl (ps_cons rfl (ps_cons rfl (ps_cons rfl (ps_cons rfl (ps_cons rfl (ps_cons rfl (ps_cons rfl ps_nil))))))))))))))))))))))))))))) rfl (fun S1 hk => ⟨rfl, hk⟩)
    | false => exact step_run (fun k => mq5_f' R39 a b l u rl ru k) (ps_cons h (ps_cons rfl (ps_cons rfl (ps_cons rfl (ps_cons rfl (ps_cons rfl (ps_cons rfl (ps_cons rfl (ps_cons rfl (ps_cons rfl (ps_cons rfl (ps_cons rfl (ps_cons rfl (ps_cons (by rw [mxW_f h]) (ps_cons (by rw [mxW_f h]) (ps_cons (by rw [mxW_f h]) (ps_cons (by rw [mxW_f h]) (ps_cons rfl (ps_cons rfl (ps_cons rfl (ps_cons rfl (ps_cons rfl (ps_cons rfl (ps_cons rfl (ps_cons rfl (ps_cons rfl (ps_cons rfl (ps_cons rfl (ps_cons rfl ps_nil))))))))))))))))))))))))))))) rfl (fun S1 hk => ⟨rfl, hk⟩))
noncomputable def JQ0 (a b : Iv) : Env P := ⟨⟨[cTimes, cSure] ++ wideC ++ quotC, [cFine]⟩, [(mq0 ({ qRec0 a b with st := .busy }) a b (qf a.lo b.hi) (qc a.lo b.hi) (qf a.lo b.lo) (qc a.lo b.lo) (by kernel_rfl) (by kernel_rfl)), (mq1 ({ qRec0 a b with st := .busy }) a b (qf a.lo b.hi) (qc a.lo b.hi) (mnW (qf a.lo b.hi) (qf a.lo b.lo)) (qc a.lo b.lo) (by kernel_rfl) (by kernel_rfl)), (mq2 ({ qRec0 a b with st := .busy }) a b (qf a.hi b.lo) (qc a.hi b.lo) (mnW (qf a.lo b.hi) (qf a.lo b.lo)) (mxW (qc a.lo b.hi) (qc a.lo b.lo)) (by kernel_rfl) (by kernel_rfl)), (mq3 ({ qRec0 a b with st := .busy }) a b (qf a.hi b.lo) (qc a.hi b.lo) (mnW (qf a.hi b.lo) (mnW (qf a.lo b.hi) (qf a.lo b.lo))) (mxW (qc a.lo b.hi) (qc a.lo b.lo)) (by kernel_rfl) (by kernel_rfl)), (mq4 ({ qRec0 a b with st := .busy }) a b (qf a.hi b.hi) (qc a.hi b.hi) (mnW (qf a.hi b.lo) (mnW (qf a.lo b.hi) (qf a.lo b.lo))) (mxW (qc a.hi b.lo) (mxW (qc a.lo b.hi) (qc a.lo b.lo))) (by kernel_rfl) (by kernel_rfl)), (mq5 ({ qRec0 a b with st := .busy }) a b (qf a.hi b.hi) (qc a.hi b.hi) (mnW (qf a.hi b.hi) (mnW (qf a.hi b.lo) (mnW (qf a.lo b.hi) (qf a.lo b.lo)))) (mxW (qc a.hi b.lo) (mxW (qc a.lo b.hi) (qc a.lo b.lo))) (by kernel_rfl) (by kernel_rfl))], 10, [toldN]⟩
noncomputable def JQ1 (a b : Iv) : Env P := ⟨⟨[cTimes, cSure] ++ wideC ++ quotC, [cFine]⟩, [(mq0 ({ qRec1 a b with st := .busy }) a b (qf a.lo b.hi) (qc a.lo b.hi) (qf a.lo b.lo) (qc a.lo b.lo) (by kernel_rfl) (by kernel_rfl)), (mq1 ({ qRec1 a b with st := .busy }) a b (qf a.lo b.hi) (qc a.lo b.hi) (mnW (qf a.lo b.hi) (qf a.lo b.lo)) (qc a.lo b.lo) (by kernel_rfl) (by kernel_rfl)), (mq2 ({ qRec1 a b with st := .busy }) a b (qf a.hi b.lo) (qc a.hi b.lo) (mnW (qf a.lo b.hi) (qf a.lo b.lo)) (mxW (qc a.lo b.hi) (qc a.lo b.lo)) (by kernel_rfl) (by kernel_rfl)), (mq3 ({ qRec1 a b with st := .busy }) a b (qf a.hi b.lo) (qc a.hi b.lo) (mnW (qf a.hi b.lo) (mnW (qf a.lo b.hi) (qf a.lo b.lo))) (mxW (qc a.lo b.hi) (qc a.lo b.lo)) (by kernel_rfl) (by kernel_rfl)), (mq4 ({ qRec1 a b with st := .busy }) a b (qf a.hi b.hi) (qc a.hi b.hi) (mnW (qf a.hi b.lo) (mnW (qf a.lo b.hi) (qf a.lo b.lo))) (mxW (qc a.hi b.lo) (mxW (qc a.lo b.hi) (qc a.lo b.lo))) (by kernel_rfl) (by kernel_rfl)), (mq5 ({ qRec1 a b with st := .busy }) a b (qf a.hi b.hi) (qc a.hi b.hi) (mnW (qf a.hi b.hi) (mnW (qf a.hi b.lo) (mnW (qf a.lo b.hi) (qf a.lo b.lo)))) (mxW (qc a.hi b.lo) (mxW (qc a.lo b.hi) (qc a.lo b.lo))) (by kernel_rfl) (by kernel_rfl))], 10, [toldN]⟩
def qMid (a b : Iv) (R : LoopS) (tl : List Prop) : List Prop :=
  (nP2 [.int .i64 a.lo, .int .i64 1073741824]) ::
  (ofP [.int .i64 b.lo]) ::
  (P2 [W (a.lo * 1073741824), W b.lo]) ::
  (surP [W (qv fq (tI (W (a.lo * 1073741824))) (tI (W b.lo))), .int .i64 (qe (tI (W (a.lo * 1073741824))) (tI (W b.lo)))]) ::
  (P2 [W (a.lo * 1073741824), W b.lo]) ::
  (surP [W (qv cq (tI (W (a.lo * 1073741824))) (tI (W b.lo))), .int .i64 (qe (tI (W (a.lo * 1073741824))) (tI (W b.lo)))]) ::
  (nP2 [.int .i64 a.lo, .int .i64 1073741824]) ::
  (ofP [.int .i64 b.hi]) ::
  (P2 [W (a.lo * 1073741824), W b.hi]) ::
  (surP [W (qv fq (tI (W (a.lo * 1073741824))) (tI (W b.hi))), .int .i64 (qe (tI (W (a.lo * 1073741824))) (tI (W b.hi)))]) ::
  (P2 [W (a.lo * 1073741824), W b.hi]) ::
  (surP [W (qv cq (tI (W (a.lo * 1073741824))) (tI (W b.hi))), .int .i64 (qe (tI (W (a.lo * 1073741824))) (tI (W b.hi)))]) ::
  (P2 [W (qv fq (tI (W (a.lo * 1073741824))) (tI (W b.hi))), W (qv fq (tI (W (a.lo * 1073741824))) (tI (W b.lo)))]) ::
  ((condOf P 64 0) = (condOf P 64 0)) ::
  ((.bool (decide (cmp3 (tI (W (qv fq (tI (W (a.lo * 1073741824))) (tI (W b.hi))))) (tI (W (qv fq (tI (W (a.lo * 1073741824))) (tI (W b.lo))))) < 0)) : Value) = .bool (decide (cmp3 (tI (W (qf a.lo b.hi))) (tI (W (qf a.lo b.lo))) < 0))) ::
  ((.ptr 11 0 : SV) = .ptr 11 0) ::
  ((.ptr 29 0 : SV) = .ptr 29 0) ::
  ((.ptr 136 0 : SV) = .ptr 136 0) ::
  ((.ptr 138 0 : SV) = .ptr 138 0) ::
  ((I a : Value) = I a) ::
  ((I b : Value) = I b) ::
  ((I (⟨0, 0, false⟩) : Value) = I (⟨0, 0, false⟩)) ::
  ((I (⟨0, 0, false⟩) : Value) = I (⟨0, 0, false⟩)) ::
  ((.int .u64 (w0 (qv fq (tI (W (a.lo * 1073741824))) (tI (W b.lo)))) : Value) = .int .u64 (w0 (qf a.lo b.lo))) ::
  ((.int .u64 (w1 (qv fq (tI (W (a.lo * 1073741824))) (tI (W b.lo)))) : Value) = .int .u64 (w1 (qf a.lo b.lo))) ::
  ((.int .u64 (w2 (qv fq (tI (W (a.lo * 1073741824))) (tI (W b.lo)))) : Value) = .int .u64 (w2 (qf a.lo b.lo))) ::
  ((.int .u64 (w3 (qv fq (tI (W (a.lo * 1073741824))) (tI (W b.lo)))) : Value) = .int .u64 (w3 (qf a.lo b.lo))) ::
  ((.int .u64 (w0 (qv cq (tI (W (a.lo * 1073741824))) (tI (W b.lo)))) : Value) = .int .u64 (w0 (qc a.lo b.lo))) ::
  ((.int .u64 (w1 (qv cq (tI (W (a.lo * 1073741824))) (tI (W b.lo)))) : Value) = .int .u64 (w1 (qc a.lo b.lo))) ::
  ((.int .u64 (w2 (qv cq (tI (W (a.lo * 1073741824))) (tI (W b.lo)))) : Value) = .int .u64 (w2 (qc a.lo b.lo))) ::
  ((.int .u64 (w3 (qv cq (tI (W (a.lo * 1073741824))) (tI (W b.lo)))) : Value) = .int .u64 (w3 (qc a.lo b.lo))) ::
  ((.int .i64 a.lo : Value) = .int .i64 a.lo) ::
  ((.int .i64 a.hi : Value) = .int .i64 a.hi) ::
  ((.bool a.bad : Value) = .bool a.bad) ::
  ((.int .i64 b.lo : Value) = .int .i64 b.lo) ::
  ((.int .i64 b.hi : Value) = .int .i64 b.hi) ::
  ((.bool b.bad : Value) = .bool b.bad) ::
  ((.bool false : Value) = .bool false) ::
  ((I a : Value) = I a) ::
  ((I b : Value) = I b) ::
  ((W (qv fq (tI (W (a.lo * 1073741824))) (tI (W b.hi))) : Value) = W (qf a.lo b.hi)) ::
  ((W (qv cq (tI (W (a.lo * 1073741824))) (tI (W b.hi))) : Value) = W (qc a.lo b.hi)) ::
  (R = R) ::
  (P2 [W (qc a.lo b.hi), W (qc a.lo b.lo)]) ::
  ((condOf P 64 1) = (condOf P 64 1)) ::
  ((.bool (decide (cmp3 (tI (W (qc a.lo b.hi))) (tI (W (qc a.lo b.lo))) > 0)) : Value) = .bool (decide (cmp3 (tI (W (qc a.lo b.hi))) (tI (W (qc a.lo b.lo))) > 0))) ::
  ((.ptr 11 0 : SV) = .ptr 11 0) ::
  ((.ptr 29 0 : SV) = .ptr 29 0) ::
  ((.ptr 136 0 : SV) = .ptr 136 0) ::
  ((.ptr 138 0 : SV) = .ptr 138 0) ::
  ((I a : Value) = I a) ::
  ((I b : Value) = I b) ::
  ((I (⟨0, 0, false⟩) : Value) = I (⟨0, 0, false⟩)) ::
  ((I (⟨0, 0, false⟩) : Value) = I (⟨0, 0, false⟩)) ::
  ((.int .u64 (w0 (mnW (qf a.lo b.hi) (qf a.lo b.lo))) : Value) = .int .u64 (w0 (mnW (qf a.lo b.hi) (qf a.lo b.lo)))) ::
  ((.int .u64 (w1 (mnW (qf a.lo b.hi) (qf a.lo b.lo))) : Value) = .int .u64 (w1 (mnW (qf a.lo b.hi) (qf a.lo b.lo)))) ::
  ((.int .u64 (w2 (mnW (qf a.lo b.hi) (qf a.lo b.lo))) : Value) = .int .u64 (w2 (mnW (qf a.lo b.hi) (qf a.lo b.lo)))) ::
  ((.int .u64 (w3 (mnW (qf a.lo b.hi) (qf a.lo b.lo))) : Value) = .int .u64 (w3 (mnW (qf a.lo b.hi) (qf a.lo b.lo)))) ::
  ((.int .u64 (w0 (qc a.lo b.lo)) : Value) = .int .u64 (w0 (qc a.lo b.lo))) ::
  ((.int .u64 (w1 (qc a.lo b.lo)) : Value) = .int .u64 (w1 (qc a.lo b.lo))) ::
  ((.int .u64 (w2 (qc a.lo b.lo)) : Value) = .int .u64 (w2 (qc a.lo b.lo))) ::
  ((.int .u64 (w3 (qc a.lo b.lo)) : Value) = .int .u64 (w3 (qc a.lo b.lo))) ::
  ((.int .i64 a.lo : Value) = .int .i64 a.lo) ::
  ((.int .i64 a.hi : Value) = .int .i64 a.hi) ::
  ((.bool a.bad : Value) = .bool a.bad) ::
  ((.int .i64 b.lo : Value) = .int .i64 b.lo) ::
  ((.int .i64 b.hi : Value) = .int .i64 b.hi) ::
  ((.bool b.bad : Value) = .bool b.bad) ::
  ((.bool false : Value) = .bool false) ::
  ((I a : Value) = I a) ::
  ((I b : Value) = I b) ::
  ((W (qf a.lo b.hi) : Value) = W (qf a.lo b.hi)) ::
  ((W (qc a.lo b.hi) : Value) = W (qc a.lo b.hi)) ::
  (R = R) ::
  (nP2 [.int .i64 a.hi, .int .i64 1073741824]) ::
  (ofP [.int .i64 b.lo]) ::
  (P2 [W (a.hi * 1073741824), W b.lo]) ::
  (surP [W (qv fq (tI (W (a.hi * 1073741824))) (tI (W b.lo))), .int .i64 (qe (tI (W (a.hi * 1073741824))) (tI (W b.lo)))]) ::
  (P2 [W (a.hi * 1073741824), W b.lo]) ::
  (surP [W (qv cq (tI (W (a.hi * 1073741824))) (tI (W b.lo))), .int .i64 (qe (tI (W (a.hi * 1073741824))) (tI (W b.lo)))]) ::
  (P2 [W (qv fq (tI (W (a.hi * 1073741824))) (tI (W b.lo))), W (mnW (qf a.lo b.hi) (qf a.lo b.lo))]) ::
  ((condOf P 64 0) = (condOf P 64 0)) ::
  ((.bool (decide (cmp3 (tI (W (qv fq (tI (W (a.hi * 1073741824))) (tI (W b.lo))))) (tI (W (mnW (qf a.lo b.hi) (qf a.lo b.lo)))) < 0)) : Value) = .bool (decide (cmp3 (tI (W (qf a.hi b.lo))) (tI (W (mnW (qf a.lo b.hi) (qf a.lo b.lo)))) < 0))) ::
  ((.ptr 11 0 : SV) = .ptr 11 0) ::
  ((.ptr 29 0 : SV) = .ptr 29 0) ::
  ((.ptr 197 0 : SV) = .ptr 197 0) ::
  ((.ptr 199 0 : SV) = .ptr 199 0) ::
  ((I a : Value) = I a) ::
  ((I b : Value) = I b) ::
  ((I (⟨0, 0, false⟩) : Value) = I (⟨0, 0, false⟩)) ::
  ((I (⟨0, 0, false⟩) : Value) = I (⟨0, 0, false⟩)) ::
  ((.int .u64 (w0 (mnW (qf a.lo b.hi) (qf a.lo b.lo))) : Value) = .int .u64 (w0 (mnW (qf a.lo b.hi) (qf a.lo b.lo)))) ::
  ((.int .u64 (w1 (mnW (qf a.lo b.hi) (qf a.lo b.lo))) : Value) = .int .u64 (w1 (mnW (qf a.lo b.hi) (qf a.lo b.lo)))) ::
  ((.int .u64 (w2 (mnW (qf a.lo b.hi) (qf a.lo b.lo))) : Value) = .int .u64 (w2 (mnW (qf a.lo b.hi) (qf a.lo b.lo)))) ::
  ((.int .u64 (w3 (mnW (qf a.lo b.hi) (qf a.lo b.lo))) : Value) = .int .u64 (w3 (mnW (qf a.lo b.hi) (qf a.lo b.lo)))) ::
  ((.int .u64 (w0 (mxW (qc a.lo b.hi) (qc a.lo b.lo))) : Value) = .int .u64 (w0 (mxW (qc a.lo b.hi) (qc a.lo b.lo)))) ::
  ((.int .u64 (w1 (mxW (qc a.lo b.hi) (qc a.lo b.lo))) : Value) = .int .u64 (w1 (mxW (qc a.lo b.hi) (qc a.lo b.lo)))) ::
  ((.int .u64 (w2 (mxW (qc a.lo b.hi) (qc a.lo b.lo))) : Value) = .int .u64 (w2 (mxW (qc a.lo b.hi) (qc a.lo b.lo)))) ::
  ((.int .u64 (w3 (mxW (qc a.lo b.hi) (qc a.lo b.lo))) : Value) = .int .u64 (w3 (mxW (qc a.lo b.hi) (qc a.lo b.lo)))) ::
  ((.int .i64 a.lo : Value) = .int .i64 a.lo) ::
  ((.int .i64 a.hi : Value) = .int .i64 a.hi) ::
  ((.bool a.bad : Value) = .bool a.bad) ::
  ((.int .i64 b.lo : Value) = .int .i64 b.lo) ::
  ((.int .i64 b.hi : Value) = .int .i64 b.hi) ::
  ((.bool b.bad : Value) = .bool b.bad) ::
  ((.bool false : Value) = .bool false) ::
  ((I a : Value) = I a) ::
  ((I b : Value) = I b) ::
  ((W (qv fq (tI (W (a.hi * 1073741824))) (tI (W b.lo))) : Value) = W (qf a.hi b.lo)) ::
  ((W (qv cq (tI (W (a.hi * 1073741824))) (tI (W b.lo))) : Value) = W (qc a.hi b.lo)) ::
  (R = R) ::
  (P2 [W (qc a.hi b.lo), W (mxW (qc a.lo b.hi) (qc a.lo b.lo))]) ::
  ((condOf P 64 1) = (condOf P 64 1)) ::
  ((.bool (decide (cmp3 (tI (W (qc a.hi b.lo))) (tI (W (mxW (qc a.lo b.hi) (qc a.lo b.lo)))) > 0)) : Value) = .bool (decide (cmp3 (tI (W (qc a.hi b.lo))) (tI (W (mxW (qc a.lo b.hi) (qc a.lo b.lo)))) > 0))) ::
  ((.ptr 11 0 : SV) = .ptr 11 0) ::
  ((.ptr 29 0 : SV) = .ptr 29 0) ::
  ((.ptr 197 0 : SV) = .ptr 197 0) ::
  ((.ptr 199 0 : SV) = .ptr 199 0) ::
  ((I a : Value) = I a) ::
  ((I b : Value) = I b) ::
  ((I (⟨0, 0, false⟩) : Value) = I (⟨0, 0, false⟩)) ::
  ((I (⟨0, 0, false⟩) : Value) = I (⟨0, 0, false⟩)) ::
  ((.int .u64 (w0 (mnW (qf a.hi b.lo) (mnW (qf a.lo b.hi) (qf a.lo b.lo)))) : Value) = .int .u64 (w0 (mnW (qf a.hi b.lo) (mnW (qf a.lo b.hi) (qf a.lo b.lo))))) ::
  ((.int .u64 (w1 (mnW (qf a.hi b.lo) (mnW (qf a.lo b.hi) (qf a.lo b.lo)))) : Value) = .int .u64 (w1 (mnW (qf a.hi b.lo) (mnW (qf a.lo b.hi) (qf a.lo b.lo))))) ::
  ((.int .u64 (w2 (mnW (qf a.hi b.lo) (mnW (qf a.lo b.hi) (qf a.lo b.lo)))) : Value) = .int .u64 (w2 (mnW (qf a.hi b.lo) (mnW (qf a.lo b.hi) (qf a.lo b.lo))))) ::
  ((.int .u64 (w3 (mnW (qf a.hi b.lo) (mnW (qf a.lo b.hi) (qf a.lo b.lo)))) : Value) = .int .u64 (w3 (mnW (qf a.hi b.lo) (mnW (qf a.lo b.hi) (qf a.lo b.lo))))) ::
  ((.int .u64 (w0 (mxW (qc a.lo b.hi) (qc a.lo b.lo))) : Value) = .int .u64 (w0 (mxW (qc a.lo b.hi) (qc a.lo b.lo)))) ::
  ((.int .u64 (w1 (mxW (qc a.lo b.hi) (qc a.lo b.lo))) : Value) = .int .u64 (w1 (mxW (qc a.lo b.hi) (qc a.lo b.lo)))) ::
  ((.int .u64 (w2 (mxW (qc a.lo b.hi) (qc a.lo b.lo))) : Value) = .int .u64 (w2 (mxW (qc a.lo b.hi) (qc a.lo b.lo)))) ::
  ((.int .u64 (w3 (mxW (qc a.lo b.hi) (qc a.lo b.lo))) : Value) = .int .u64 (w3 (mxW (qc a.lo b.hi) (qc a.lo b.lo)))) ::
  ((.int .i64 a.lo : Value) = .int .i64 a.lo) ::
  ((.int .i64 a.hi : Value) = .int .i64 a.hi) ::
  ((.bool a.bad : Value) = .bool a.bad) ::
  ((.int .i64 b.lo : Value) = .int .i64 b.lo) ::
  ((.int .i64 b.hi : Value) = .int .i64 b.hi) ::
  ((.bool b.bad : Value) = .bool b.bad) ::
  ((.bool false : Value) = .bool false) ::
  ((I a : Value) = I a) ::
  ((I b : Value) = I b) ::
  ((W (qf a.hi b.lo) : Value) = W (qf a.hi b.lo)) ::
  ((W (qc a.hi b.lo) : Value) = W (qc a.hi b.lo)) ::
  (R = R) ::
  (nP2 [.int .i64 a.hi, .int .i64 1073741824]) ::
  (ofP [.int .i64 b.hi]) ::
  (P2 [W (a.hi * 1073741824), W b.hi]) ::
  (surP [W (qv fq (tI (W (a.hi * 1073741824))) (tI (W b.hi))), .int .i64 (qe (tI (W (a.hi * 1073741824))) (tI (W b.hi)))]) ::
  (P2 [W (a.hi * 1073741824), W b.hi]) ::
  (surP [W (qv cq (tI (W (a.hi * 1073741824))) (tI (W b.hi))), .int .i64 (qe (tI (W (a.hi * 1073741824))) (tI (W b.hi)))]) ::
  (P2 [W (qv fq (tI (W (a.hi * 1073741824))) (tI (W b.hi))), W (mnW (qf a.hi b.lo) (mnW (qf a.lo b.hi) (qf a.lo b.lo)))]) ::
  ((condOf P 64 0) = (condOf P 64 0)) ::
  ((.bool (decide (cmp3 (tI (W (qv fq (tI (W (a.hi * 1073741824))) (tI (W b.hi))))) (tI (W (mnW (qf a.hi b.lo) (mnW (qf a.lo b.hi) (qf a.lo b.lo))))) < 0)) : Value) = .bool (decide (cmp3 (tI (W (qf a.hi b.hi))) (tI (W (mnW (qf a.hi b.lo) (mnW (qf a.lo b.hi) (qf a.lo b.lo))))) < 0))) ::
  ((.ptr 11 0 : SV) = .ptr 11 0) ::
  ((.ptr 29 0 : SV) = .ptr 29 0) ::
  ((.ptr 246 0 : SV) = .ptr 246 0) ::
  ((.ptr 248 0 : SV) = .ptr 248 0) ::
  ((I a : Value) = I a) ::
  ((I b : Value) = I b) ::
  ((I (⟨0, 0, false⟩) : Value) = I (⟨0, 0, false⟩)) ::
  ((I (⟨0, 0, false⟩) : Value) = I (⟨0, 0, false⟩)) ::
  ((.int .u64 (w0 (mnW (qf a.hi b.lo) (mnW (qf a.lo b.hi) (qf a.lo b.lo)))) : Value) = .int .u64 (w0 (mnW (qf a.hi b.lo) (mnW (qf a.lo b.hi) (qf a.lo b.lo))))) ::
  ((.int .u64 (w1 (mnW (qf a.hi b.lo) (mnW (qf a.lo b.hi) (qf a.lo b.lo)))) : Value) = .int .u64 (w1 (mnW (qf a.hi b.lo) (mnW (qf a.lo b.hi) (qf a.lo b.lo))))) ::
  ((.int .u64 (w2 (mnW (qf a.hi b.lo) (mnW (qf a.lo b.hi) (qf a.lo b.lo)))) : Value) = .int .u64 (w2 (mnW (qf a.hi b.lo) (mnW (qf a.lo b.hi) (qf a.lo b.lo))))) ::
  ((.int .u64 (w3 (mnW (qf a.hi b.lo) (mnW (qf a.lo b.hi) (qf a.lo b.lo)))) : Value) = .int .u64 (w3 (mnW (qf a.hi b.lo) (mnW (qf a.lo b.hi) (qf a.lo b.lo))))) ::
  ((.int .u64 (w0 (mxW (qc a.hi b.lo) (mxW (qc a.lo b.hi) (qc a.lo b.lo)))) : Value) = .int .u64 (w0 (mxW (qc a.hi b.lo) (mxW (qc a.lo b.hi) (qc a.lo b.lo))))) ::
  ((.int .u64 (w1 (mxW (qc a.hi b.lo) (mxW (qc a.lo b.hi) (qc a.lo b.lo)))) : Value) = .int .u64 (w1 (mxW (qc a.hi b.lo) (mxW (qc a.lo b.hi) (qc a.lo b.lo))))) ::
  ((.int .u64 (w2 (mxW (qc a.hi b.lo) (mxW (qc a.lo b.hi) (qc a.lo b.lo)))) : Value) = .int .u64 (w2 (mxW (qc a.hi b.lo) (mxW (qc a.lo b.hi) (qc a.lo b.lo))))) ::
  ((.int .u64 (w3 (mxW (qc a.hi b.lo) (mxW (qc a.lo b.hi) (qc a.lo b.lo)))) : Value) = .int .u64 (w3 (mxW (qc a.hi b.lo) (mxW (qc a.lo b.hi) (qc a.lo b.lo))))) ::
  ((.int .i64 a.lo : Value) = .int .i64 a.lo) ::
  ((.int .i64 a.hi : Value) = .int .i64 a.hi) ::
  ((.bool a.bad : Value) = .bool a.bad) ::
  ((.int .i64 b.lo : Value) = .int .i64 b.lo) ::
  ((.int .i64 b.hi : Value) = .int .i64 b.hi) ::
  ((.bool b.bad : Value) = .bool b.bad) ::
  ((.bool false : Value) = .bool false) ::
  ((I a : Value) = I a) ::
  ((I b : Value) = I b) ::
  ((W (qv fq (tI (W (a.hi * 1073741824))) (tI (W b.hi))) : Value) = W (qf a.hi b.hi)) ::
  ((W (qv cq (tI (W (a.hi * 1073741824))) (tI (W b.hi))) : Value) = W (qc a.hi b.hi)) ::
  (R = R) ::
  (P2 [W (qc a.hi b.hi), W (mxW (qc a.hi b.lo) (mxW (qc a.lo b.hi) (qc a.lo b.lo)))]) ::
  ((condOf P 64 1) = (condOf P 64 1)) ::
  ((.bool (decide (cmp3 (tI (W (qc a.hi b.hi))) (tI (W (mxW (qc a.hi b.lo) (mxW (qc a.lo b.hi) (qc a.lo b.lo))))) > 0)) : Value) = .bool (decide (cmp3 (tI (W (qc a.hi b.hi))) (tI (W (mxW (qc a.hi b.lo) (mxW (qc a.lo b.hi) (qc a.lo b.lo))))) > 0))) ::
  ((.ptr 11 0 : SV) = .ptr 11 0) ::
  ((.ptr 29 0 : SV) = .ptr 29 0) ::
  ((.ptr 246 0 : SV) = .ptr 246 0) ::
  ((.ptr 248 0 : SV) = .ptr 248 0) ::
  ((I a : Value) = I a) ::
  ((I b : Value) = I b) ::
  ((I (⟨0, 0, false⟩) : Value) = I (⟨0, 0, false⟩)) ::
  ((I (⟨0, 0, false⟩) : Value) = I (⟨0, 0, false⟩)) ::
  ((.int .u64 (w0 (mnW (qf a.hi b.hi) (mnW (qf a.hi b.lo) (mnW (qf a.lo b.hi) (qf a.lo b.lo))))) : Value) = .int .u64 (w0 (mnW (qf a.hi b.hi) (mnW (qf a.hi b.lo) (mnW (qf a.lo b.hi) (qf a.lo b.lo)))))) ::
  ((.int .u64 (w1 (mnW (qf a.hi b.hi) (mnW (qf a.hi b.lo) (mnW (qf a.lo b.hi) (qf a.lo b.lo))))) : Value) = .int .u64 (w1 (mnW (qf a.hi b.hi) (mnW (qf a.hi b.lo) (mnW (qf a.lo b.hi) (qf a.lo b.lo)))))) ::
  ((.int .u64 (w2 (mnW (qf a.hi b.hi) (mnW (qf a.hi b.lo) (mnW (qf a.lo b.hi) (qf a.lo b.lo))))) : Value) = .int .u64 (w2 (mnW (qf a.hi b.hi) (mnW (qf a.hi b.lo) (mnW (qf a.lo b.hi) (qf a.lo b.lo)))))) ::
  ((.int .u64 (w3 (mnW (qf a.hi b.hi) (mnW (qf a.hi b.lo) (mnW (qf a.lo b.hi) (qf a.lo b.lo))))) : Value) = .int .u64 (w3 (mnW (qf a.hi b.hi) (mnW (qf a.hi b.lo) (mnW (qf a.lo b.hi) (qf a.lo b.lo)))))) ::
  ((.int .u64 (w0 (mxW (qc a.hi b.lo) (mxW (qc a.lo b.hi) (qc a.lo b.lo)))) : Value) = .int .u64 (w0 (mxW (qc a.hi b.lo) (mxW (qc a.lo b.hi) (qc a.lo b.lo))))) ::
  ((.int .u64 (w1 (mxW (qc a.hi b.lo) (mxW (qc a.lo b.hi) (qc a.lo b.lo)))) : Value) = .int .u64 (w1 (mxW (qc a.hi b.lo) (mxW (qc a.lo b.hi) (qc a.lo b.lo))))) ::
  ((.int .u64 (w2 (mxW (qc a.hi b.lo) (mxW (qc a.lo b.hi) (qc a.lo b.lo)))) : Value) = .int .u64 (w2 (mxW (qc a.hi b.lo) (mxW (qc a.lo b.hi) (qc a.lo b.lo))))) ::
  ((.int .u64 (w3 (mxW (qc a.hi b.lo) (mxW (qc a.lo b.hi) (qc a.lo b.lo)))) : Value) = .int .u64 (w3 (mxW (qc a.hi b.lo) (mxW (qc a.lo b.hi) (qc a.lo b.lo))))) ::
  ((.int .i64 a.lo : Value) = .int .i64 a.lo) ::
  ((.int .i64 a.hi : Value) = .int .i64 a.hi) ::
  ((.bool a.bad : Value) = .bool a.bad) ::
  ((.int .i64 b.lo : Value) = .int .i64 b.lo) ::
  ((.int .i64 b.hi : Value) = .int .i64 b.hi) ::
  ((.bool b.bad : Value) = .bool b.bad) ::
  ((.bool false : Value) = .bool false) ::
  ((I a : Value) = I a) ::
  ((I b : Value) = I b) ::
  ((W (qf a.hi b.hi) : Value) = W (qf a.hi b.hi)) ::
  ((W (qc a.hi b.hi) : Value) = W (qc a.hi b.hi)) ::
  (R = R) ::
  tl
structure Corn (x y : Int) : Prop where
  hx : I64 x
  hy : I64 y
  f : qv fq (tI (W (x * 1073741824))) (tI (W y)) = qf x y
  c : qv cq (tI (W (x * 1073741824))) (tI (W y)) = qc x y
  e : qe (tI (W (x * 1073741824))) (tI (W y)) = 0
  fi : InR (qf x y)
  ci : InR (qc x y)
theorem corn {x y : Int} (hx : I64 x) (hy : I64 y) (h : y ≠ 0) : Corn x y := by
  have s1 : Sm (x * 1073741824) := smmul hx i64one
  have s2 := sm64 hy
  have e1 : tI (W (x * 1073741824)) = x * 1073741824 := tI_in (inR_of s1)
  have e2 : tI (W y) = y := tI_in (inR_of s2)
  refine ⟨hx, hy, ?_, ?_, ?_, (fl_facts s1 s2 h).2.2.2.1, cq_in s1 s2 h⟩
  · rw [e1, e2, qv_ok fq s1 s2 h]; rfl
  · rw [e1, e2, qv_ok cq s1 s2 h]; rfl
  · rw [e1, e2, qe_ok s1 s2 h]
theorem qMid_ok {a b : Iv} {R : LoopS} {tl : List Prop} (k1 : Corn a.lo b.lo) (k2 : Corn a.lo b.hi) (k3 : Corn a.hi b.lo) (k4 : Corn a.hi b.hi) (h : ∀ p ∈ tl, p) : ∀ p ∈ qMid a b R tl, p :=
  ps_cons (⟨k1.hx, i64one⟩) (
  ps_cons (k1.hy) (
  ps_cons (P2_W _ _) (
  ps_cons (⟨⟨_, rfl⟩, k1.e⟩) (
  ps_cons (P2_W _ _) (
  ps_cons (⟨⟨_, rfl⟩, k1.e⟩) (
  ps_cons (⟨k1.hx, i64one⟩) (
  ps_cons (k2.hy) (
  ps_cons (P2_W _ _) (
  ps_cons (⟨⟨_, rfl⟩, k2.e⟩) (
  ps_cons (P2_W _ _) (
  ps_cons (⟨⟨_, rfl⟩, k2.e⟩) (
  ps_cons (P2_W _ _) (
  ps_cons (rfl) (
  ps_cons (by rw [k2.f, k1.f]) (
  ps_cons (rfl) (
  ps_cons (rfl) (
  ps_cons (rfl) (
  ps_cons (rfl) (
  ps_cons (rfl) (
  ps_cons (rfl) (
  ps_cons (rfl) (
  ps_cons (rfl) (
  ps_cons (by rw [k1.f]) (
  ps_cons (by rw [k1.f]) (
  ps_cons (by rw [k1.f]) (
  ps_cons (by rw [k1.f]) (
  ps_cons (by rw [k1.c]) (
  ps_cons (by rw [k1.c]) (
  ps_cons (by rw [k1.c]) (
  ps_cons (by rw [k1.c]) (
  ps_cons (rfl) (
  ps_cons (rfl) (
  ps_cons (rfl) (
  ps_cons (rfl) (
  ps_cons (rfl) (
  ps_cons (rfl) (
  ps_cons (rfl) (
  ps_cons (rfl) (
  ps_cons (rfl) (
  ps_cons (by rw [k2.f]) (
  ps_cons (by rw [k2.c]) (
  ps_cons (rfl) (
  ps_cons (P2_W _ _) (
  ps_cons (rfl) (
  ps_cons (rfl) (
  ps_cons (rfl) (
  ps_cons (rfl) (
  ps_cons (rfl) (
  ps_cons (rfl) (
  ps_cons (rfl) (
  ps_cons (rfl) (
  ps_cons (rfl) (
  ps_cons (rfl) (
  ps_cons (rfl) (
  ps_cons (rfl) (
  ps_cons (rfl) (
  ps_cons (rfl) (
  ps_cons (rfl) (
  ps_cons (rfl) (
  ps_cons (rfl) (
  ps_cons (rfl) (
  ps_cons (rfl) (
  ps_cons (rfl) (
  ps_cons (rfl) (
  ps_cons (rfl) (
  ps_cons (rfl) (
  ps_cons (rfl) (
  ps_cons (rfl) (
  ps_cons (rfl) (
  ps_cons (rfl) (
  ps_cons (rfl) (
  ps_cons (rfl) (
  ps_cons (rfl) (
  ps_cons (⟨k3.hx, i64one⟩) (
  ps_cons (k1.hy) (
  ps_cons (P2_W _ _) (
  ps_cons (⟨⟨_, rfl⟩, k3.e⟩) (
  ps_cons (P2_W _ _) (
  ps_cons (⟨⟨_, rfl⟩, k3.e⟩) (
  ps_cons (P2_W _ _) (
  ps_cons (rfl) (
  ps_cons (by rw [k3.f]) (
  ps_cons (rfl) (
  ps_cons (rfl) (
  ps_cons (rfl) (
  ps_cons (rfl) (
  ps_cons (rfl) (
  ps_cons (rfl) (
  ps_cons (rfl) (
  ps_cons (rfl) (
  ps_cons (rfl) (
  ps_cons (rfl) (
  ps_cons (rfl) (
  ps_cons (rfl) (
  ps_cons (rfl) (
  ps_cons (rfl) (
  ps_cons (rfl) (
  ps_cons (rfl) (
  ps_cons (rfl) (
  ps_cons (rfl) (
  ps_cons (rfl) (
  ps_cons (rfl) (
  ps_cons (rfl) (
  ps_cons (rfl) (
  ps_cons (rfl) (
  ps_cons (rfl) (
  ps_cons (rfl) (
  ps_cons (by rw [k3.f]) (
  ps_cons (by rw [k3.c]) (
  ps_cons (rfl) (
  ps_cons (P2_W _ _) (
  ps_cons (rfl) (
  ps_cons (rfl) (
  ps_cons (rfl) (
  ps_cons (rfl) (
  ps_cons (rfl) (
  ps_cons (rfl) (
  ps_cons (rfl) (
  ps_cons (rfl) (
  ps_cons (rfl) (
  ps_cons (rfl) (
  ps_cons (rfl) (
  ps_cons (rfl) (
  ps_cons (rfl) (
  ps_cons (rfl) (
  ps_cons (rfl) (
  ps_cons (rfl) (
  ps_cons (rfl) (
  ps_cons (rfl) (
  ps_cons (rfl) (
  ps_cons (rfl) (
  ps_cons (rfl) (
  ps_cons (rfl) (
  ps_cons (rfl) (
  ps_cons (rfl) (
  ps_cons (rfl) (
  ps_cons (rfl) (
  ps_cons (rfl) (
  ps_cons (rfl) (
  ps_cons (rfl) (
  ps_cons (rfl) (
  ps_cons (⟨k3.hx, i64one⟩) (
  ps_cons (k2.hy) (
  ps_cons (P2_W _ _) (
  ps_cons (⟨⟨_, rfl⟩, k4.e⟩) (
  ps_cons (P2_W _ _) (
  ps_cons (⟨⟨_, rfl⟩, k4.e⟩) (
  ps_cons (P2_W _ _) (
  ps_cons (rfl) (
  ps_cons (by rw [k4.f]) (
  ps_cons (rfl) (
  ps_cons (rfl) (
  ps_cons (rfl) (
  ps_cons (rfl) (
  ps_cons (rfl) (
  ps_cons (rfl) (
  ps_cons (rfl) (
  ps_cons (rfl) (
  ps_cons (rfl) (
  ps_cons (rfl) (
  ps_cons (rfl) (
  ps_cons (rfl) (
  ps_cons (rfl) (
  ps_cons (rfl) (
  ps_cons (rfl) (
  ps_cons (rfl) (
  ps_cons (rfl) (
  ps_cons (rfl) (
  ps_cons (rfl) (
  ps_cons (rfl) (
  ps_cons (rfl) (
  ps_cons (rfl) (
  ps_cons (rfl) (
  ps_cons (rfl) (
  ps_cons (rfl) (
  ps_cons (by rw [k4.f]) (
  ps_cons (by rw [k4.c]) (
  ps_cons (rfl) (
  ps_cons (P2_W _ _) (
  ps_cons (rfl) (
  ps_cons (rfl) (
  ps_cons (rfl) (
  ps_cons (rfl) (
  ps_cons (rfl) (
  ps_cons (rfl) (
  ps_cons (rfl) (
  ps_cons (rfl) (
  ps_cons (rfl) (
  ps_cons (rfl) (
  ps_cons (rfl) (
  ps_cons (rfl) (
  ps_cons (rfl) (
  ps_cons (rfl) (
  ps_cons (rfl) (
  ps_cons (rfl) (
  ps_cons (rfl) (
  ps_cons (rfl) (
  ps_cons (rfl) (
  ps_cons (rfl) (
  ps_cons (rfl) (
  ps_cons (rfl) (
  ps_cons (rfl) (
  ps_cons (rfl) (
  ps_cons (rfl) (
  ps_cons (rfl) (
  ps_cons (rfl) (
  ps_cons (rfl) (
  ps_cons (rfl) (
  ps_cons (rfl) (h))))))))))))))))))))))))))))))))))))))))))))))))))))))))))))))))))))))))))))))))))))))))))))))))))))))))))))))))))))))))))))))))))))))))))))))))))))))))))))))))))))))))))))))))))))))))))))))))))))))))))))))))))
theorem ends_eq {a b : Iv} (k1 : Corn a.lo b.lo) (k2 : Corn a.lo b.hi) (k3 : Corn a.hi b.lo) (k4 : Corn a.hi b.hi) :
    tI (W (mnW (qf a.hi b.hi) (mnW (qf a.hi b.lo) (mnW (qf a.lo b.hi) (qf a.lo b.lo))))) = loQ a b ∧ tI (W (mxW (qc a.hi b.hi) (mxW (qc a.hi b.lo) (mxW (qc a.lo b.hi) (qc a.lo b.lo))))) = hiQ a b := by
  have a1 := mnW_mn k2.fi k1.fi
  have a2 := mnW_mn k3.fi a1.2
  have a3 := mnW_mn k4.fi a2.2
  have b1 := mxW_mx k2.ci k1.ci
  have b2 := mxW_mx k3.ci b1.2
  have b3 := mxW_mx k4.ci b2.2
  rw [tI_in a3.2, tI_in b3.2, a3.1, a2.1, a1.1, b3.1, b2.1, b1.1]
  exact ⟨rfl, rfl⟩
theorem qF_run (a b : Iv) : runF P JN 4 34 [I a, I b] (.lit :: (.b false :: [])) =
  some (I (⟨0, 0, true⟩), [fineP [ivs [a, b]], (fineL [a, b]) = false]) := by kernel_rfl
theorem qF_leaf (a b : Iv) (hf : fineL [a, b] = false) : Gives P 34 #[I a, I b] (I (quotI a b)) := by
  refine gives_of_run mo (qF_run a b) (ps_cons (ivs_ok (by simp)) (ps_cons hf (ps_nil))) ?_
  unfold quotI
  rw [hf]
  rfl
theorem qS_run (a b : Iv) : runF P JN 4 34 [I a, I b] (.lit :: (.b true :: (.b false :: (.b true :: [])))) =
  some (I (⟨0, 0, true⟩), [fineP [ivs [a, b]], (fineL [a, b]) = true, (decide (b.lo > 0)) = false, (!(decide (b.hi < 0))) = true]) := by kernel_rfl
theorem qS_leaf (a b : Iv) (hf : fineL [a, b] = true) (hl : ¬ b.lo > 0) (hs : ¬ b.hi < 0) : Gives P 34 #[I a, I b] (I (quotI a b)) := by
  refine gives_of_run mo (qS_run a b) (ps_cons (ivs_ok (by simp)) (ps_cons hf (ps_cons (decide_eq_false hl) (ps_cons (by rw [decide_eq_false hs]; rfl) (ps_nil))))) ?_
  unfold quotI
  rw [hf, decide_eq_false hl, decide_eq_false hs]
  rfl
theorem quot_sign {a b : Iv} (hf : fineL [a, b] = true) (hs : b.lo > 0 ∨ b.hi < 0) : quotI a b = told ⟨loQ a b, hiQ a b, false⟩ := by
  unfold quotI
  have : (decide (b.lo > 0) || decide (b.hi < 0)) = true := by simp only [Bool.or_eq_true, decide_eq_true_eq]; exact hs
  rw [hf, this]
  rfl
theorem i64_of_fine {x y : Int} (h : fine ⟨x, y, false⟩ = true) : i64B x = true ∧ i64B y = true := by
  have := fine_iff.1 h
  unfold i64B
  simp only [Bool.and_eq_true, decide_eq_true_eq]
  simp only at this
  omega
theorem told_not {x y : Int} (h : i64B x = false ∨ i64B y = false) : told ⟨x, y, false⟩ = bd := by
  refine told_no ?_
  rw [← Bool.not_eq_true]
  intro hf
  have := i64_of_fine hf
  rcases h with h | h
  · rw [this.1] at h; cases h
  · rw [this.2] at h; cases h
theorem corns {a b : Iv} (hf : fineL [a, b] = true) (hs : b.lo > 0 ∨ b.hi < 0) : Corn a.lo b.lo ∧ Corn a.lo b.hi ∧ Corn a.hi b.lo ∧ Corn a.hi b.hi := by
  obtain ⟨fa, fb⟩ := fine2.1 hf
  obtain ⟨a1, a2⟩ := fine64 fa
  obtain ⟨b1, b2⟩ := fine64 fb
  have rb := fine_iff.1 fb
  exact ⟨corn a1 b1 (by omega), corn a1 b2 (by omega), corn a2 b1 (by omega), corn a2 b2 (by omega)⟩
theorem qC0_run (a b : Iv) : runF P (JQ0 a b) 5 34 [I a, I b] (.lit :: (.b true :: (.b true :: (lits 13 (.n 0 :: (.lit :: (.n 1 :: (lits 6 (.n 2 :: (.lit :: (.n 3 :: (.lit :: (.lit :: (.lit :: (.n 4 :: (.lit :: (.n 5 :: (.lit :: (.lit :: (.lit :: (.b false :: []))))))))))))))))))))) =
  some (I (⟨0, 0, true⟩), (fineP [ivs [a, b]]) :: ((fineL [a, b]) = true) :: ((decide (b.lo > 0)) = true) :: qMid a b { qRec0 a b with st := .busy } [P1 [W (mnW (qf a.hi b.hi) (mnW (qf a.hi b.lo) (mnW (qf a.lo b.hi) (qf a.lo b.lo))))], P1 [W (mxW (qc a.hi b.hi) (mxW (qc a.hi b.lo) (mxW (qc a.lo b.hi) (qc a.lo b.lo))))], (i64B (tI (W (mnW (qf a.hi b.hi) (mnW (qf a.hi b.lo) (mnW (qf a.lo b.hi) (qf a.lo b.lo))))))) = false]) := by kernel_rfl
theorem qC0_leaf (a b : Iv) (hf : fineL [a, b] = true) (hs : b.lo > 0) (q1 : i64B (loQ a b) = false) : Gives P 34 #[I a, I b] (I (quotI a b)) := by
  obtain ⟨k1, k2, k3, k4⟩ := corns hf (.inl hs)
  obtain ⟨el, eh⟩ := ends_eq k1 k2 k3 k4
  refine gives_of_run mo (qC0_run a b) (ps_cons (ivs_ok (by simp)) (ps_cons hf (ps_cons (decide_eq_true hs) (qMid_ok k1 k2 k3 k4 (ps_cons (P1_W _) (ps_cons (P1_W _) (ps_cons (by rw [el]; exact q1) (ps_nil)))))))) ?_
  rw [quot_sign hf (.inl hs)]
  rw [told_not (.inl q1)]
  rfl
theorem qC1_run (a b : Iv) : runF P (JQ0 a b) 5 34 [I a, I b] (.lit :: (.b true :: (.b true :: (lits 13 (.n 0 :: (.lit :: (.n 1 :: (lits 6 (.n 2 :: (.lit :: (.n 3 :: (.lit :: (.lit :: (.lit :: (.n 4 :: (.lit :: (.n 5 :: (.lit :: (.lit :: (.lit :: (.b true :: (.b false :: [])))))))))))))))))))))) =
  some (I (⟨0, 0, true⟩), (fineP [ivs [a, b]]) :: ((fineL [a, b]) = true) :: ((decide (b.lo > 0)) = true) :: qMid a b { qRec0 a b with st := .busy } [P1 [W (mnW (qf a.hi b.hi) (mnW (qf a.hi b.lo) (mnW (qf a.lo b.hi) (qf a.lo b.lo))))], P1 [W (mxW (qc a.hi b.hi) (mxW (qc a.hi b.lo) (mxW (qc a.lo b.hi) (qc a.lo b.lo))))], (i64B (tI (W (mnW (qf a.hi b.hi) (mnW (qf a.hi b.lo) (mnW (qf a.lo b.hi) (qf a.lo b.lo))))))) = true, (i64B (tI (W (mxW (qc a.hi b.hi) (mxW (qc a.hi b.lo) (mxW (qc a.lo b.hi) (qc a.lo b.lo))))))) = false]) := by kernel_rfl
theorem qC1_leaf (a b : Iv) (hf : fineL [a, b] = true) (hs : b.lo > 0) (q1 : i64B (loQ a b) = true) (q2 : i64B (hiQ a b) = false) : Gives P 34 #[I a, I b] (I (quotI a b)) := by
  obtain ⟨k1, k2, k3, k4⟩ := corns hf (.inl hs)
  obtain ⟨el, eh⟩ := ends_eq k1 k2 k3 k4
  refine gives_of_run mo (qC1_run a b) (ps_cons (ivs_ok (by simp)) (ps_cons hf (ps_cons (decide_eq_true hs) (qMid_ok k1 k2 k3 k4 (ps_cons (P1_W _) (ps_cons (P1_W _) (ps_cons (by rw [el]; exact q1) (ps_cons (by rw [eh]; exact q2) (ps_nil))))))))) ?_
  rw [quot_sign hf (.inl hs)]
  rw [told_not (.inr q2)]
  rfl
theorem qC2_run (a b : Iv) : runF P (JQ0 a b) 5 34 [I a, I b] (.lit :: (.b true :: (.b true :: (lits 13 (.n 0 :: (.lit :: (.n 1 :: (lits 6 (.n 2 :: (.lit :: (.n 3 :: (.lit :: (.lit :: (.lit :: (.n 4 :: (.lit :: (.n 5 :: (.lit :: (.lit :: (.lit :: (.b true :: (.b true :: (.lit :: (.b true :: [])))))))))))))))))))))))) =
  some (I (⟨0, 0, true⟩), (fineP [ivs [a, b]]) :: ((fineL [a, b]) = true) :: ((decide (b.lo > 0)) = true) :: qMid a b { qRec0 a b with st := .busy } [P1 [W (mnW (qf a.hi b.hi) (mnW (qf a.hi b.lo) (mnW (qf a.lo b.hi) (qf a.lo b.lo))))], P1 [W (mxW (qc a.hi b.hi) (mxW (qc a.hi b.lo) (mxW (qc a.lo b.hi) (qc a.lo b.lo))))], (i64B (tI (W (mnW (qf a.hi b.hi) (mnW (qf a.hi b.lo) (mnW (qf a.lo b.hi) (qf a.lo b.lo))))))) = true, (i64B (tI (W (mxW (qc a.hi b.hi) (mxW (qc a.hi b.lo) (mxW (qc a.lo b.hi) (qc a.lo b.lo))))))) = true, fineP [ivs [⟨(if i64B (tI (W (mnW (qf a.hi b.hi) (mnW (qf a.hi b.lo) (mnW (qf a.lo b.hi) (qf a.lo b.lo)))))) then tI (W (mnW (qf a.hi b.hi) (mnW (qf a.hi b.lo) (mnW (qf a.lo b.hi) (qf a.lo b.lo))))) else 0), (if i64B (tI (W (mxW (qc a.hi b.hi) (mxW (qc a.hi b.lo) (mxW (qc a.lo b.hi) (qc a.lo b.lo)))))) then tI (W (mxW (qc a.hi b.hi) (mxW (qc a.hi b.lo) (mxW (qc a.lo b.hi) (qc a.lo b.lo))))) else 0), false⟩]], (!(fineL [⟨(if i64B (tI (W (mnW (qf a.hi b.hi) (mnW (qf a.hi b.lo) (mnW (qf a.lo b.hi) (qf a.lo b.lo)))))) then tI (W (mnW (qf a.hi b.hi) (mnW (qf a.hi b.lo) (mnW (qf a.lo b.hi) (qf a.lo b.lo))))) else 0), (if i64B (tI (W (mxW (qc a.hi b.hi) (mxW (qc a.hi b.lo) (mxW (qc a.lo b.hi) (qc a.lo b.lo)))))) then tI (W (mxW (qc a.hi b.hi) (mxW (qc a.hi b.lo) (mxW (qc a.lo b.hi) (qc a.lo b.lo))))) else 0), false⟩])) = true]) := by kernel_rfl
theorem qC2_leaf (a b : Iv) (hf : fineL [a, b] = true) (hs : b.lo > 0) (q1 : i64B (loQ a b) = true) (q2 : i64B (hiQ a b) = true) (q3 : fineL [⟨loQ a b, hiQ a b, false⟩] = false) : Gives P 34 #[I a, I b] (I (quotI a b)) := by
  obtain ⟨k1, k2, k3, k4⟩ := corns hf (.inl hs)
  obtain ⟨el, eh⟩ := ends_eq k1 k2 k3 k4
  refine gives_of_run mo (qC2_run a b) (ps_cons (ivs_ok (by simp)) (ps_cons hf (ps_cons (decide_eq_true hs) (qMid_ok k1 k2 k3 k4 (ps_cons (P1_W _) (ps_cons (P1_W _) (ps_cons (by rw [el]; exact q1) (ps_cons (by rw [eh]; exact q2) (ps_cons (ivs_ok (by simp)) (ps_cons (by rw [el, eh, if_pos q1, if_pos q2, q3]; rfl) (ps_nil))))))))))) ?_
  rw [quot_sign hf (.inl hs)]
  rw [told_no (fine1 ▸ q3)]
  rfl
theorem qC3_run (a b : Iv) : runF P (JQ0 a b) 5 34 [I a, I b] (.lit :: (.b true :: (.b true :: (lits 13 (.n 0 :: (.lit :: (.n 1 :: (lits 6 (.n 2 :: (.lit :: (.n 3 :: (.lit :: (.lit :: (.lit :: (.n 4 :: (.lit :: (.n 5 :: (.lit :: (.lit :: (.lit :: (.b true :: (.b true :: (.lit :: (.b false :: [])))))))))))))))))))))))) =
  some (I (⟨(if i64B (tI (W (mnW (qf a.hi b.hi) (mnW (qf a.hi b.lo) (mnW (qf a.lo b.hi) (qf a.lo b.lo)))))) then tI (W (mnW (qf a.hi b.hi) (mnW (qf a.hi b.lo) (mnW (qf a.lo b.hi) (qf a.lo b.lo))))) else 0), (if i64B (tI (W (mxW (qc a.hi b.hi) (mxW (qc a.hi b.lo) (mxW (qc a.lo b.hi) (qc a.lo b.lo)))))) then tI (W (mxW (qc a.hi b.hi) (mxW (qc a.hi b.lo) (mxW (qc a.lo b.hi) (qc a.lo b.lo))))) else 0), false⟩), (fineP [ivs [a, b]]) :: ((fineL [a, b]) = true) :: ((decide (b.lo > 0)) = true) :: qMid a b { qRec0 a b with st := .busy } [P1 [W (mnW (qf a.hi b.hi) (mnW (qf a.hi b.lo) (mnW (qf a.lo b.hi) (qf a.lo b.lo))))], P1 [W (mxW (qc a.hi b.hi) (mxW (qc a.hi b.lo) (mxW (qc a.lo b.hi) (qc a.lo b.lo))))], (i64B (tI (W (mnW (qf a.hi b.hi) (mnW (qf a.hi b.lo) (mnW (qf a.lo b.hi) (qf a.lo b.lo))))))) = true, (i64B (tI (W (mxW (qc a.hi b.hi) (mxW (qc a.hi b.lo) (mxW (qc a.lo b.hi) (qc a.lo b.lo))))))) = true, fineP [ivs [⟨(if i64B (tI (W (mnW (qf a.hi b.hi) (mnW (qf a.hi b.lo) (mnW (qf a.lo b.hi) (qf a.lo b.lo)))))) then tI (W (mnW (qf a.hi b.hi) (mnW (qf a.hi b.lo) (mnW (qf a.lo b.hi) (qf a.lo b.lo))))) else 0), (if i64B (tI (W (mxW (qc a.hi b.hi) (mxW (qc a.hi b.lo) (mxW (qc a.lo b.hi) (qc a.lo b.lo)))))) then tI (W (mxW (qc a.hi b.hi) (mxW (qc a.hi b.lo) (mxW (qc a.lo b.hi) (qc a.lo b.lo))))) else 0), false⟩]], (!(fineL [⟨(if i64B (tI (W (mnW (qf a.hi b.hi) (mnW (qf a.hi b.lo) (mnW (qf a.lo b.hi) (qf a.lo b.lo)))))) then tI (W (mnW (qf a.hi b.hi) (mnW (qf a.hi b.lo) (mnW (qf a.lo b.hi) (qf a.lo b.lo))))) else 0), (if i64B (tI (W (mxW (qc a.hi b.hi) (mxW (qc a.hi b.lo) (mxW (qc a.lo b.hi) (qc a.lo b.lo)))))) then tI (W (mxW (qc a.hi b.hi) (mxW (qc a.hi b.lo) (mxW (qc a.lo b.hi) (qc a.lo b.lo))))) else 0), false⟩])) = false]) := by kernel_rfl
theorem qC3_leaf (a b : Iv) (hf : fineL [a, b] = true) (hs : b.lo > 0) (q1 : i64B (loQ a b) = true) (q2 : i64B (hiQ a b) = true) (q3 : fineL [⟨loQ a b, hiQ a b, false⟩] = true) : Gives P 34 #[I a, I b] (I (quotI a b)) := by
  obtain ⟨k1, k2, k3, k4⟩ := corns hf (.inl hs)
  obtain ⟨el, eh⟩ := ends_eq k1 k2 k3 k4
  refine gives_of_run mo (qC3_run a b) (ps_cons (ivs_ok (by simp)) (ps_cons hf (ps_cons (decide_eq_true hs) (qMid_ok k1 k2 k3 k4 (ps_cons (P1_W _) (ps_cons (P1_W _) (ps_cons (by rw [el]; exact q1) (ps_cons (by rw [eh]; exact q2) (ps_cons (ivs_ok (by simp)) (ps_cons (by rw [el, eh, if_pos q1, if_pos q2, q3]; rfl) (ps_nil))))))))))) ?_
  rw [quot_sign hf (.inl hs)]
  rw [told_ok (fine1 ▸ q3), el, eh, if_pos q1, if_pos q2]
theorem qD0_run (a b : Iv) : runF P (JQ1 a b) 5 34 [I a, I b] (.lit :: (.b true :: (.b false :: (.b false :: (lits 12 (.n 0 :: (.lit :: (.n 1 :: (lits 6 (.n 2 :: (.lit :: (.n 3 :: (.lit :: (.lit :: (.lit :: (.n 4 :: (.lit :: (.n 5 :: (.lit :: (.lit :: (.lit :: (.b false :: [])))))))))))))))))))))) =
  some (I (⟨0, 0, true⟩), (fineP [ivs [a, b]]) :: ((fineL [a, b]) = true) :: ((decide (b.lo > 0)) = false) :: ((!(decide (b.hi < 0))) = false) :: qMid a b { qRec1 a b with st := .busy } [P1 [W (mnW (qf a.hi b.hi) (mnW (qf a.hi b.lo) (mnW (qf a.lo b.hi) (qf a.lo b.lo))))], P1 [W (mxW (qc a.hi b.hi) (mxW (qc a.hi b.lo) (mxW (qc a.lo b.hi) (qc a.lo b.lo))))], (i64B (tI (W (mnW (qf a.hi b.hi) (mnW (qf a.hi b.lo) (mnW (qf a.lo b.hi) (qf a.lo b.lo))))))) = false]) := by kernel_rfl
theorem qD0_leaf (a b : Iv) (hf : fineL [a, b] = true) (hl : ¬ b.lo > 0) (hs : b.hi < 0) (q1 : i64B (loQ a b) = false) : Gives P 34 #[I a, I b] (I (quotI a b)) := by
  obtain ⟨k1, k2, k3, k4⟩ := corns hf (.inr hs)
  obtain ⟨el, eh⟩ := ends_eq k1 k2 k3 k4
  refine gives_of_run mo (qD0_run a b) (ps_cons (ivs_ok (by simp)) (ps_cons hf (ps_cons (decide_eq_false hl) (ps_cons (by rw [decide_eq_true hs]; rfl) (qMid_ok k1 k2 k3 k4 (ps_cons (P1_W _) (ps_cons (P1_W _) (ps_cons (by rw [el]; exact q1) (ps_nil))))))))) ?_
  rw [quot_sign hf (.inr hs)]
  rw [told_not (.inl q1)]
  rfl
theorem qD1_run (a b : Iv) : runF P (JQ1 a b) 5 34 [I a, I b] (.lit :: (.b true :: (.b false :: (.b false :: (lits 12 (.n 0 :: (.lit :: (.n 1 :: (lits 6 (.n 2 :: (.lit :: (.n 3 :: (.lit :: (.lit :: (.lit :: (.n 4 :: (.lit :: (.n 5 :: (.lit :: (.lit :: (.lit :: (.b true :: (.b false :: []))))))))))))))))))))))) =
  some (I (⟨0, 0, true⟩), (fineP [ivs [a, b]]) :: ((fineL [a, b]) = true) :: ((decide (b.lo > 0)) = false) :: ((!(decide (b.hi < 0))) = false) :: qMid a b { qRec1 a b with st := .busy } [P1 [W (mnW (qf a.hi b.hi) (mnW (qf a.hi b.lo) (mnW (qf a.lo b.hi) (qf a.lo b.lo))))], P1 [W (mxW (qc a.hi b.hi) (mxW (qc a.hi b.lo) (mxW (qc a.lo b.hi) (qc a.lo b.lo))))], (i64B (tI (W (mnW (qf a.hi b.hi) (mnW (qf a.hi b.lo) (mnW (qf a.lo b.hi) (qf a.lo b.lo))))))) = true, (i64B (tI (W (mxW (qc a.hi b.hi) (mxW (qc a.hi b.lo) (mxW (qc a.lo b.hi) (qc a.lo b.lo))))))) = false]) := by kernel_rfl
theorem qD1_leaf (a b : Iv) (hf : fineL [a, b] = true) (hl : ¬ b.lo > 0) (hs : b.hi < 0) (q1 : i64B (loQ a b) = true) (q2 : i64B (hiQ a b) = false) : Gives P 34 #[I a, I b] (I (quotI a b)) := by
  obtain ⟨k1, k2, k3, k4⟩ := corns hf (.inr hs)
  obtain ⟨el, eh⟩ := ends_eq k1 k2 k3 k4
  refine gives_of_run mo (qD1_run a b) (ps_cons (ivs_ok (by simp)) (ps_cons hf (ps_cons (decide_eq_false hl) (ps_cons (by rw [decide_eq_true hs]; rfl) (qMid_ok k1 k2 k3 k4 (ps_cons (P1_W _) (ps_cons (P1_W _) (ps_cons (by rw [el]; exact q1) (ps_cons (by rw [eh]; exact q2) (ps_nil)))))))))) ?_
  rw [quot_sign hf (.inr hs)]
  rw [told_not (.inr q2)]
  rfl
theorem qD2_run (a b : Iv) : runF P (JQ1 a b) 5 34 [I a, I b] (.lit :: (.b true :: (.b false :: (.b false :: (lits 12 (.n 0 :: (.lit :: (.n 1 :: (lits 6 (.n 2 :: (.lit :: (.n 3 :: (.lit :: (.lit :: (.lit :: (.n 4 :: (.lit :: (.n 5 :: (.lit :: (.lit :: (.lit :: (.b true :: (.b true :: (.lit :: (.b true :: []))))))))))))))))))))))))) =
  some (I (⟨0, 0, true⟩), (fineP [ivs [a, b]]) :: ((fineL [a, b]) = true) :: ((decide (b.lo > 0)) = false) :: ((!(decide (b.hi < 0))) = false) :: qMid a b { qRec1 a b with st := .busy } [P1 [W (mnW (qf a.hi b.hi) (mnW (qf a.hi b.lo) (mnW (qf a.lo b.hi) (qf a.lo b.lo))))], P1 [W (mxW (qc a.hi b.hi) (mxW (qc a.hi b.lo) (mxW (qc a.lo b.hi) (qc a.lo b.lo))))], (i64B (tI (W (mnW (qf a.hi b.hi) (mnW (qf a.hi b.lo) (mnW (qf a.lo b.hi) (qf a.lo b.lo))))))) = true, (i64B (tI (W (mxW (qc a.hi b.hi) (mxW (qc a.hi b.lo) (mxW (qc a.lo b.hi) (qc a.lo b.lo))))))) = true, fineP [ivs [⟨(if i64B (tI (W (mnW (qf a.hi b.hi) (mnW (qf a.hi b.lo) (mnW (qf a.lo b.hi) (qf a.lo b.lo)))))) then tI (W (mnW (qf a.hi b.hi) (mnW (qf a.hi b.lo) (mnW (qf a.lo b.hi) (qf a.lo b.lo))))) else 0), (if i64B (tI (W (mxW (qc a.hi b.hi) (mxW (qc a.hi b.lo) (mxW (qc a.lo b.hi) (qc a.lo b.lo)))))) then tI (W (mxW (qc a.hi b.hi) (mxW (qc a.hi b.lo) (mxW (qc a.lo b.hi) (qc a.lo b.lo))))) else 0), false⟩]], (!(fineL [⟨(if i64B (tI (W (mnW (qf a.hi b.hi) (mnW (qf a.hi b.lo) (mnW (qf a.lo b.hi) (qf a.lo b.lo)))))) then tI (W (mnW (qf a.hi b.hi) (mnW (qf a.hi b.lo) (mnW (qf a.lo b.hi) (qf a.lo b.lo))))) else 0), (if i64B (tI (W (mxW (qc a.hi b.hi) (mxW (qc a.hi b.lo) (mxW (qc a.lo b.hi) (qc a.lo b.lo)))))) then tI (W (mxW (qc a.hi b.hi) (mxW (qc a.hi b.lo) (mxW (qc a.lo b.hi) (qc a.lo b.lo))))) else 0), false⟩])) = true]) := by kernel_rfl
theorem qD2_leaf (a b : Iv) (hf : fineL [a, b] = true) (hl : ¬ b.lo > 0) (hs : b.hi < 0) (q1 : i64B (loQ a b) = true) (q2 : i64B (hiQ a b) = true) (q3 : fineL [⟨loQ a b, hiQ a b, false⟩] = false) : Gives P 34 #[I a, I b] (I (quotI a b)) := by
  obtain ⟨k1, k2, k3, k4⟩ := corns hf (.inr hs)
  obtain ⟨el, eh⟩ := ends_eq k1 k2 k3 k4
  refine gives_of_run mo (qD2_run a b) (ps_cons (ivs_ok (by simp)) (ps_cons hf (ps_cons (decide_eq_false hl) (ps_cons (by rw [decide_eq_true hs]; rfl) (qMid_ok k1 k2 k3 k4 (ps_cons (P1_W _) (ps_cons (P1_W _) (ps_cons (by rw [el]; exact q1) (ps_cons (by rw [eh]; exact q2) (ps_cons (ivs_ok (by simp)) (ps_cons (by rw [el, eh, if_pos q1, if_pos q2, q3]; rfl) (ps_nil)))))))))))) ?_
  rw [quot_sign hf (.inr hs)]
  rw [told_no (fine1 ▸ q3)]
  rfl
theorem qD3_run (a b : Iv) : runF P (JQ1 a b) 5 34 [I a, I b] (.lit :: (.b true :: (.b false :: (.b false :: (lits 12 (.n 0 :: (.lit :: (.n 1 :: (lits 6 (.n 2 :: (.lit :: (.n 3 :: (.lit :: (.lit :: (.lit :: (.n 4 :: (.lit :: (.n 5 :: (.lit :: (.lit :: (.lit :: (.b true :: (.b true :: (.lit :: (.b false :: []))))))))))))))))))))))))) =
  some (I (⟨(if i64B (tI (W (mnW (qf a.hi b.hi) (mnW (qf a.hi b.lo) (mnW (qf a.lo b.hi) (qf a.lo b.lo)))))) then tI (W (mnW (qf a.hi b.hi) (mnW (qf a.hi b.lo) (mnW (qf a.lo b.hi) (qf a.lo b.lo))))) else 0), (if i64B (tI (W (mxW (qc a.hi b.hi) (mxW (qc a.hi b.lo) (mxW (qc a.lo b.hi) (qc a.lo b.lo)))))) then tI (W (mxW (qc a.hi b.hi) (mxW (qc a.hi b.lo) (mxW (qc a.lo b.hi) (qc a.lo b.lo))))) else 0), false⟩), (fineP [ivs [a, b]]) :: ((fineL [a, b]) = true) :: ((decide (b.lo > 0)) = false) :: ((!(decide (b.hi < 0))) = false) :: qMid a b { qRec1 a b with st := .busy } [P1 [W (mnW (qf a.hi b.hi) (mnW (qf a.hi b.lo) (mnW (qf a.lo b.hi) (qf a.lo b.lo))))], P1 [W (mxW (qc a.hi b.hi) (mxW (qc a.hi b.lo) (mxW (qc a.lo b.hi) (qc a.lo b.lo))))], (i64B (tI (W (mnW (qf a.hi b.hi) (mnW (qf a.hi b.lo) (mnW (qf a.lo b.hi) (qf a.lo b.lo))))))) = true, (i64B (tI (W (mxW (qc a.hi b.hi) (mxW (qc a.hi b.lo) (mxW (qc a.lo b.hi) (qc a.lo b.lo))))))) = true, fineP [ivs [⟨(if i64B (tI (W (mnW (qf a.hi b.hi) (mnW (qf a.hi b.lo) (mnW (qf a.lo b.hi) (qf a.lo b.lo)))))) then tI (W (mnW (qf a.hi b.hi) (mnW (qf a.hi b.lo) (mnW (qf a.lo b.hi) (qf a.lo b.lo))))) else 0), (if i64B (tI (W (mxW (qc a.hi b.hi) (mxW (qc a.hi b.lo) (mxW (qc a.lo b.hi) (qc a.lo b.lo)))))) then tI (W (mxW (qc a.hi b.hi) (mxW (qc a.hi b.lo) (mxW (qc a.lo b.hi) (qc a.lo b.lo))))) else 0), false⟩]], (!(fineL [⟨(if i64B (tI (W (mnW (qf a.hi b.hi) (mnW (qf a.hi b.lo) (mnW (qf a.lo b.hi) (qf a.lo b.lo)))))) then tI (W (mnW (qf a.hi b.hi) (mnW (qf a.hi b.lo) (mnW (qf a.lo b.hi) (qf a.lo b.lo))))) else 0), (if i64B (tI (W (mxW (qc a.hi b.hi) (mxW (qc a.hi b.lo) (mxW (qc a.lo b.hi) (qc a.lo b.lo)))))) then tI (W (mxW (qc a.hi b.hi) (mxW (qc a.hi b.lo) (mxW (qc a.lo b.hi) (qc a.lo b.lo))))) else 0), false⟩])) = false]) := by kernel_rfl
theorem qD3_leaf (a b : Iv) (hf : fineL [a, b] = true) (hl : ¬ b.lo > 0) (hs : b.hi < 0) (q1 : i64B (loQ a b) = true) (q2 : i64B (hiQ a b) = true) (q3 : fineL [⟨loQ a b, hiQ a b, false⟩] = true) : Gives P 34 #[I a, I b] (I (quotI a b)) := by
  obtain ⟨k1, k2, k3, k4⟩ := corns hf (.inr hs)
  obtain ⟨el, eh⟩ := ends_eq k1 k2 k3 k4
  refine gives_of_run mo (qD3_run a b) (ps_cons (ivs_ok (by simp)) (ps_cons hf (ps_cons (decide_eq_false hl) (ps_cons (by rw [decide_eq_true hs]; rfl) (qMid_ok k1 k2 k3 k4 (ps_cons (P1_W _) (ps_cons (P1_W _) (ps_cons (by rw [el]; exact q1) (ps_cons (by rw [eh]; exact q2) (ps_cons (ivs_ok (by simp)) (ps_cons (by rw [el, eh, if_pos q1, if_pos q2, q3]; rfl) (ps_nil)))))))))))) ?_
  rw [quot_sign hf (.inr hs)]
  rw [told_ok (fine1 ▸ q3), el, eh, if_pos q1, if_pos q2]
theorem quot_gives (args : List Value) (h : iP2 args) : Gives P 34 args.toArray ((two2 fun a b => I (quotI a b)) args) := by
  unfold iP2 at h
  split at h
  · obtain ⟨⟨a, rfl⟩, b, rfl⟩ := h
    show Gives P _ #[I a, I b] (I (quotI a b))
    cases hf : fineL [a, b] with
    | false => exact qF_leaf a b hf
    | true =>
      by_cases hl : b.lo > 0
      · cases q1 : i64B (loQ a b) with
        | false => exact qC0_leaf a b hf hl q1
        | true =>
          cases q2 : i64B (hiQ a b) with
          | false => exact qC1_leaf a b hf hl q1 q2
          | true =>
            cases q3 : fineL [⟨loQ a b, hiQ a b, false⟩] with
            | false => exact qC2_leaf a b hf hl q1 q2 q3
            | true => exact qC3_leaf a b hf hl q1 q2 q3
      · by_cases hs : b.hi < 0
        · cases q1 : i64B (loQ a b) with
          | false => exact qD0_leaf a b hf hl hs q1
          | true =>
            cases q2 : i64B (hiQ a b) with
            | false => exact qD1_leaf a b hf hl hs q1 q2
            | true =>
              cases q3 : fineL [⟨loQ a b, hiQ a b, false⟩] with
              | false => exact qD2_leaf a b hf hl hs q1 q2 q3
              | true => exact qD3_leaf a b hf hl hs q1 q2 q3
        · exact qS_leaf a b hf hl hs
  · exact h.elim
noncomputable def cQuot : Ctr P := ⟨34, iP2, two2 fun a b => I (quotI a b), quot_gives⟩
end Go.Nv
/-
  Contracts of package inv: inverses, squares, roots, signs, cubes. Printed by inC.py.
-/
namespace Go.Nv
open Go Go.RowKit Go.Sx Go.Nm Go.Wd Go.Qt Go.Iv Go.Rt Go.Proofs
noncomputable def JR : Env P := ⟨⟨[cTimes, cSure] ++ rootC ++ wideC ++ quotC, [cFine]⟩, [], 10, [toldN]⟩
noncomputable def JRn : Env P := ⟨⟨[cTimes] ++ rootC ++ wideC ++ quotC, [cFine]⟩, [], 10, [toldN]⟩
def i6 (x : Int) : Int := if i64B x then x else 0
theorem i6_ok {x : Int} (h : i64B x = true) : i6 x = x := if_pos h
def leastW (a : Iv) : Int := (if 0 > (if IntKind.i64.wrap (0 - a.hi) > a.lo then IntKind.i64.wrap (0 - a.hi) else a.lo) then 0 else (if IntKind.i64.wrap (0 - a.hi) > a.lo then IntKind.i64.wrap (0 - a.hi) else a.lo))
def mostW (a : Iv) : Int := (if IntKind.i64.wrap (0 - a.lo) > a.hi then IntKind.i64.wrap (0 - a.lo) else a.hi)
def rtW (x : Int) : Int := if 0 ≤ tI (W (x * 1073741824)) then rt (tI (W (x * 1073741824))) else 0
def rcW (x : Int) : Int := if 0 ≤ tI (W (x * 1073741824)) then rc (tI (W (x * 1073741824))) else 0
theorem sqF_run (a : Iv) : runF P JN 4 38 [I a] (.lit :: (.b true :: [])) =
  some (I (⟨0, 0, true⟩), [fineP [ivs [a]], (!(fineL [a])) = true]) := by kernel_rfl
theorem sqF_leaf (a : Iv) (hf : fineL [a] = false) : Gives P 38 #[I a] (I (squareI a)) := by
  refine gives_of_run mo (sqF_run a) (ps_cons (ivs_ok (by simp)) (ps_cons (neg_t hf) ps_nil)) ?_
  unfold squareI
  rw [hf]
  rfl
structure SqF (a : Iv) : Prop where
  i1 : I64 (leastW a)
  i2 : I64 (mostW a)
  e1 : qe (tI (W (leastW a * leastW a))) (tI (W 1073741824)) = 0
  e2 : qe (tI (W (mostW a * mostW a))) (tI (W 1073741824)) = 0
  el : tI (W (qv fq (tI (W (leastW a * leastW a))) (tI (W 1073741824)))) = fq (least a * least a) 1073741824
  eh : tI (W (qv cq (tI (W (mostW a * mostW a))) (tI (W 1073741824)))) = cq (most a * most a) 1073741824
theorem sqF {a : Iv} (hf : fineL [a] = true) : SqF a := by
  rw [fine1] at hf
  have ra := fine_iff.1 hf
  have w1 : IntKind.i64.wrap (0 - a.hi) = -a.hi := by rw [Int.zero_sub]; exact wr (by omega) (by omega)
  have w2 : IntKind.i64.wrap (0 - a.lo) = -a.lo := by rw [Int.zero_sub]; exact wr (by omega) (by omega)
  have el : leastW a = least a := by unfold leastW; rw [w1]; rfl
  have em : mostW a = most a := by unfold mostW; rw [w2]; rfl
  have l0 := (least_spec hf).1
  have m0 := most_spec hf
  have l1 : least a ≤ 1152921504606846976 := by
    rcases (least_spec hf).2.1 a.lo (Int.le_refl _) (by omega) with h | h <;> omega
  have i1 : I64 (least a) := by unfold I64; omega
  have i2 : I64 (most a) := by unfold I64; omega
  have s1 := smmul i1 i1
  have s2 := smmul i2 i2
  have so := sm64 i64one
  have e1 : tI (W (least a * least a)) = least a * least a := tI_in (inR_of s1)
  have e2 : tI (W (most a * most a)) = most a * most a := tI_in (inR_of s2)
  have e3 : tI (W 1073741824) = 1073741824 := tI_in (inR_of so)
  refine ⟨by rw [el]; exact i1, by rw [em]; exact i2, ?_, ?_, ?_, ?_⟩
  · rw [el, e1, e3, qe_ok s1 so (by decide)]
  · rw [em, e2, e3, qe_ok s2 so (by decide)]
  · rw [el, e1, e3, qv_ok fq s1 so (by decide), tI_in (fl_facts s1 so (by decide)).2.2.2.1]
  · rw [em, e2, e3, qv_ok cq s2 so (by decide), tI_in (cq_in s2 so (by decide))]
theorem sq0_run (a : Iv) : runF P JN 4 38 [I a] (.lit :: (.b false :: (.b false :: []))) =
  some (I (⟨0, 0, true⟩), [fineP [ivs [a]], (!(fineL [a])) = false, ofP [.int .i64 1073741824], nP2 [.int .i64 (leastW a), .int .i64 (leastW a)], P2 [W (leastW a * leastW a), W 1073741824], surP [W (qv fq (tI (W (leastW a * leastW a))) (tI (W 1073741824))), .int .i64 (qe (tI (W (leastW a * leastW a))) (tI (W 1073741824)))], nP2 [.int .i64 (mostW a), .int .i64 (mostW a)], P2 [W (mostW a * mostW a), W 1073741824], surP [W (qv cq (tI (W (mostW a * mostW a))) (tI (W 1073741824))), .int .i64 (qe (tI (W (mostW a * mostW a))) (tI (W 1073741824)))], P1 [W (qv fq (tI (W (leastW a * leastW a))) (tI (W 1073741824)))], P1 [W (qv cq (tI (W (mostW a * mostW a))) (tI (W 1073741824)))], (i64B (tI (W (qv fq (tI (W (leastW a * leastW a))) (tI (W 1073741824)))))) = false]) := by kernel_rfl
theorem sq0_leaf (a : Iv) (hf : fineL [a] = true) (q1 : i64B (fq (least a * least a) 1073741824) = false) : Gives P 38 #[I a] (I (squareI a)) := by
  have F := sqF hf
  have el := F.el
  have eh := F.eh
  refine gives_of_run mo (sq0_run a) (ps_cons (ivs_ok (by simp)) (ps_cons (neg_f hf) (ps_cons i64one (ps_cons ⟨F.i1, F.i1⟩ (ps_cons (P2_W _ _) (ps_cons ⟨⟨_, rfl⟩, F.e1⟩ (ps_cons ⟨F.i2, F.i2⟩ (ps_cons (P2_W _ _) (ps_cons ⟨⟨_, rfl⟩, F.e2⟩ (ps_cons (P1_W _) (ps_cons (P1_W _) (ps_cons (by rw [el]; exact q1) ps_nil)))))))))))) ?_
  rw [(show squareI a = told ⟨fq (least a * least a) 1073741824, cq (most a * most a) 1073741824, false⟩ by unfold squareI; rw [hf]; rfl)]
  rw [told_not (.inl q1)]
  rfl
theorem sq1_run (a : Iv) : runF P JN 4 38 [I a] (.lit :: (.b false :: (.b true :: (.b false :: [])))) =
  some (I (⟨0, 0, true⟩), [fineP [ivs [a]], (!(fineL [a])) = false, ofP [.int .i64 1073741824], nP2 [.int .i64 (leastW a), .int .i64 (leastW a)], P2 [W (leastW a * leastW a), W 1073741824], surP [W (qv fq (tI (W (leastW a * leastW a))) (tI (W 1073741824))), .int .i64 (qe (tI (W (leastW a * leastW a))) (tI (W 1073741824)))], nP2 [.int .i64 (mostW a), .int .i64 (mostW a)], P2 [W (mostW a * mostW a), W 1073741824], surP [W (qv cq (tI (W (mostW a * mostW a))) (tI (W 1073741824))), .int .i64 (qe (tI (W (mostW a * mostW a))) (tI (W 1073741824)))], P1 [W (qv fq (tI (W (leastW a * leastW a))) (tI (W 1073741824)))], P1 [W (qv cq (tI (W (mostW a * mostW a))) (tI (W 1073741824)))], (i64B (tI (W (qv fq (tI (W (leastW a * leastW a))) (tI (W 1073741824)))))) = true, (i64B (tI (W (qv cq (tI (W (mostW a * mostW a))) (tI (W 1073741824)))))) = false]) := by kernel_rfl
theorem sq1_leaf (a : Iv) (hf : fineL [a] = true) (q1 : i64B (fq (least a * least a) 1073741824) = true) (q2 : i64B (cq (most a * most a) 1073741824) = false) : Gives P 38 #[I a] (I (squareI a)) := by
  have F := sqF hf
  have el := F.el
  have eh := F.eh
  refine gives_of_run mo (sq1_run a) (ps_cons (ivs_ok (by simp)) (ps_cons (neg_f hf) (ps_cons i64one (ps_cons ⟨F.i1, F.i1⟩ (ps_cons (P2_W _ _) (ps_cons ⟨⟨_, rfl⟩, F.e1⟩ (ps_cons ⟨F.i2, F.i2⟩ (ps_cons (P2_W _ _) (ps_cons ⟨⟨_, rfl⟩, F.e2⟩ (ps_cons (P1_W _) (ps_cons (P1_W _) (ps_cons (by rw [el]; exact q1) (ps_cons (by rw [eh]; exact q2) ps_nil))))))))))))) ?_
  rw [(show squareI a = told ⟨fq (least a * least a) 1073741824, cq (most a * most a) 1073741824, false⟩ by unfold squareI; rw [hf]; rfl)]
  rw [told_not (.inr q2)]
  rfl
theorem sq2_run (a : Iv) : runF P JN 4 38 [I a] (.lit :: (.b false :: (.b true :: (.b true :: (.lit :: (.b true :: [])))))) =
  some (I (⟨0, 0, true⟩), [fineP [ivs [a]], (!(fineL [a])) = false, ofP [.int .i64 1073741824], nP2 [.int .i64 (leastW a), .int .i64 (leastW a)], P2 [W (leastW a * leastW a), W 1073741824], surP [W (qv fq (tI (W (leastW a * leastW a))) (tI (W 1073741824))), .int .i64 (qe (tI (W (leastW a * leastW a))) (tI (W 1073741824)))], nP2 [.int .i64 (mostW a), .int .i64 (mostW a)], P2 [W (mostW a * mostW a), W 1073741824], surP [W (qv cq (tI (W (mostW a * mostW a))) (tI (W 1073741824))), .int .i64 (qe (tI (W (mostW a * mostW a))) (tI (W 1073741824)))], P1 [W (qv fq (tI (W (leastW a * leastW a))) (tI (W 1073741824)))], P1 [W (qv cq (tI (W (mostW a * mostW a))) (tI (W 1073741824)))], (i64B (tI (W (qv fq (tI (W (leastW a * leastW a))) (tI (W 1073741824)))))) = true, (i64B (tI (W (qv cq (tI (W (mostW a * mostW a))) (tI (W 1073741824)))))) = true, fineP [ivs [⟨(i6 (tI (W (qv fq (tI (W (leastW a * leastW a))) (tI (W 1073741824)))))), (i6 (tI (W (qv cq (tI (W (mostW a * mostW a))) (tI (W 1073741824)))))), false⟩]], (!(fineL [⟨(i6 (tI (W (qv fq (tI (W (leastW a * leastW a))) (tI (W 1073741824)))))), (i6 (tI (W (qv cq (tI (W (mostW a * mostW a))) (tI (W 1073741824)))))), false⟩])) = true]) := by kernel_rfl
theorem sq2_leaf (a : Iv) (hf : fineL [a] = true) (q1 : i64B (fq (least a * least a) 1073741824) = true) (q2 : i64B (cq (most a * most a) 1073741824) = true) (q3 : fineL [⟨fq (least a * least a) 1073741824, cq (most a * most a) 1073741824, false⟩] = false) : Gives P 38 #[I a] (I (squareI a)) := by
  have F := sqF hf
  have el := F.el
  have eh := F.eh
  refine gives_of_run mo (sq2_run a) (ps_cons (ivs_ok (by simp)) (ps_cons (neg_f hf) (ps_cons i64one (ps_cons ⟨F.i1, F.i1⟩ (ps_cons (P2_W _ _) (ps_cons ⟨⟨_, rfl⟩, F.e1⟩ (ps_cons ⟨F.i2, F.i2⟩ (ps_cons (P2_W _ _) (ps_cons ⟨⟨_, rfl⟩, F.e2⟩ (ps_cons (P1_W _) (ps_cons (P1_W _) (ps_cons (by rw [el]; exact q1) (ps_cons (by rw [eh]; exact q2) (ps_cons (ivs_ok (by simp)) (ps_cons (by rw [el, eh, i6_ok q1, i6_ok q2, q3]; rfl) ps_nil))))))))))))))) ?_
  rw [(show squareI a = told ⟨fq (least a * least a) 1073741824, cq (most a * most a) 1073741824, false⟩ by unfold squareI; rw [hf]; rfl)]
  rw [told_no (fine1 ▸ q3)]
  rfl
theorem sq3_run (a : Iv) : runF P JN 4 38 [I a] (.lit :: (.b false :: (.b true :: (.b true :: (.lit :: (.b false :: [])))))) =
  some (I (⟨(i6 (tI (W (qv fq (tI (W (leastW a * leastW a))) (tI (W 1073741824)))))), (i6 (tI (W (qv cq (tI (W (mostW a * mostW a))) (tI (W 1073741824)))))), false⟩), [fineP [ivs [a]], (!(fineL [a])) = false, ofP [.int .i64 1073741824], nP2 [.int .i64 (leastW a), .int .i64 (leastW a)], P2 [W (leastW a * leastW a), W 1073741824], surP [W (qv fq (tI (W (leastW a * leastW a))) (tI (W 1073741824))), .int .i64 (qe (tI (W (leastW a * leastW a))) (tI (W 1073741824)))], nP2 [.int .i64 (mostW a), .int .i64 (mostW a)], P2 [W (mostW a * mostW a), W 1073741824], surP [W (qv cq (tI (W (mostW a * mostW a))) (tI (W 1073741824))), .int .i64 (qe (tI (W (mostW a * mostW a))) (tI (W 1073741824)))], P1 [W (qv fq (tI (W (leastW a * leastW a))) (tI (W 1073741824)))], P1 [W (qv cq (tI (W (mostW a * mostW a))) (tI (W 1073741824)))], (i64B (tI (W (qv fq (tI (W (leastW a * leastW a))) (tI (W 1073741824)))))) = true, (i64B (tI (W (qv cq (tI (W (mostW a * mostW a))) (tI (W 1073741824)))))) = true, fineP [ivs [⟨(i6 (tI (W (qv fq (tI (W (leastW a * leastW a))) (tI (W 1073741824)))))), (i6 (tI (W (qv cq (tI (W (mostW a * mostW a))) (tI (W 1073741824)))))), false⟩]], (!(fineL [⟨(i6 (tI (W (qv fq (tI (W (leastW a * leastW a))) (tI (W 1073741824)))))), (i6 (tI (W (qv cq (tI (W (mostW a * mostW a))) (tI (W 1073741824)))))), false⟩])) = false]) := by kernel_rfl
theorem sq3_leaf (a : Iv) (hf : fineL [a] = true) (q1 : i64B (fq (least a * least a) 1073741824) = true) (q2 : i64B (cq (most a * most a) 1073741824) = true) (q3 : fineL [⟨fq (least a * least a) 1073741824, cq (most a * most a) 1073741824, false⟩] = true) : Gives P 38 #[I a] (I (squareI a)) := by
  have F := sqF hf
  have el := F.el
  have eh := F.eh
  refine gives_of_run mo (sq3_run a) (ps_cons (ivs_ok (by simp)) (ps_cons (neg_f hf) (ps_cons i64one (ps_cons ⟨F.i1, F.i1⟩ (ps_cons (P2_W _ _) (ps_cons ⟨⟨_, rfl⟩, F.e1⟩ (ps_cons ⟨F.i2, F.i2⟩ (ps_cons (P2_W _ _) (ps_cons ⟨⟨_, rfl⟩, F.e2⟩ (ps_cons (P1_W _) (ps_cons (P1_W _) (ps_cons (by rw [el]; exact q1) (ps_cons (by rw [eh]; exact q2) (ps_cons (ivs_ok (by simp)) (ps_cons (by rw [el, eh, i6_ok q1, i6_ok q2, q3]; rfl) ps_nil))))))))))))))) ?_
  rw [(show squareI a = told ⟨fq (least a * least a) 1073741824, cq (most a * most a) 1073741824, false⟩ by unfold squareI; rw [hf]; rfl)]
  rw [told_ok (fine1 ▸ q3), el, eh, i6_ok q1, i6_ok q2]
theorem square_gives (args : List Value) (h : iP1 args) : Gives P 38 args.toArray ((one1 fun a => I (squareI a)) args) := by
  unfold iP1 at h
  split at h
  · obtain ⟨a, rfl⟩ := h
    show Gives P _ #[I a] (I (squareI a))
    cases hf : fineL [a] with
    | false => exact sqF_leaf a hf
    | true =>
      cases q1 : i64B (fq (least a * least a) 1073741824) with
      | false => exact sq0_leaf a hf q1
      | true =>
        cases q2 : i64B (cq (most a * most a) 1073741824) with
        | false => exact sq1_leaf a hf q1 q2
        | true =>
          cases q3 : fineL [⟨fq (least a * least a) 1073741824, cq (most a * most a) 1073741824, false⟩] with
          | false => exact sq2_leaf a hf q1 q2 q3
          | true => exact sq3_leaf a hf q1 q2 q3
  · exact h.elim
noncomputable def cSquare : Ctr P := ⟨38, iP1, one1 fun a => I (squareI a), square_gives⟩
theorem rtF_run (a : Iv) : runF P JR 4 40 [I a] (.lit :: (.b true :: [])) =
  some (I (⟨0, 0, true⟩), [fineP [ivs [a]], (!(fineL [a])) = true]) := by kernel_rfl
theorem rtF_leaf (a : Iv) (hf : fineL [a] = false) : Gives P 40 #[I a] (I (rootI a)) := by
  refine gives_of_run mo (rtF_run a) (ps_cons (ivs_ok (by simp)) (ps_cons (neg_t hf) ps_nil)) ?_
  unfold rootI
  rw [hf]
  rfl
structure RtF (a : Iv) : Prop where
  i1 : I64 a.lo
  i2 : I64 a.hi
  e0 : ∀ {x : Int}, I64 x → tI (W (x * 1073741824)) = x * 1073741824
  n : ∀ {x : Int}, I64 x → x < 0 → rootE (tI (W (x * 1073741824))) = 2
  z : ∀ {x : Int}, I64 x → 0 ≤ x → rootE (tI (W (x * 1073741824))) = 0
theorem rtF {a : Iv} (hf : fineL [a] = true) : RtF a := by
  rw [fine1] at hf
  obtain ⟨a1, a2⟩ := fine64 hf
  have e0 : ∀ {x : Int}, I64 x → tI (W (x * 1073741824)) = x * 1073741824 := fun h => tI_in (inR_of (smmul h i64one))
  refine ⟨a1, a2, e0, fun h hx => ?_, fun h hx => ?_⟩
  · rw [e0 h]; unfold rootE; rw [if_neg (by omega)]
  · rw [e0 h]; unfold rootE; rw [if_pos (by omega)]
theorem rtW_ok {a : Iv} (hf : fineL [a] = true) (h0 : 0 ≤ a.lo) : tI (W (rtW a.lo)) = rt (a.lo * 1073741824) ∧ tI (W (rcW a.hi)) = rc (a.hi * 1073741824) := by
  have F := rtF hf
  rw [fine1] at hf
  have ra := fine_iff.1 hf
  have j1 := ones_in h0 (by omega)
  have j2 := ones_in (x := a.hi) (by omega) (by omega)
  have r1 := rt_range j1.1 j1.2
  have r2 := rc_top (x := a.hi) (by omega) (by omega)
  have r3 := (rc_is j2.1 j2.2).1
  have k128 : (2 : Int) ^ 128 = 340282366920938463463374607431768211456 := by decide
  rw [k128] at r1
  unfold rtW rcW
  rw [F.e0 F.i1, F.e0 F.i2, if_pos j1.1, if_pos j2.1]
  exact ⟨tI_in (by unfold InR; simp only [HH]; omega), tI_in (by unfold InR; simp only [HH]; omega)⟩
theorem rtN_run (a : Iv) : runF P JRn 5 40 [I a] (.lit :: (.b false :: (.b true :: []))) =
  some (I (⟨0, 0, true⟩), [fineP [ivs [a]], (!(fineL [a])) = false, nP2 [.int .i64 a.lo, .int .i64 1073741824], P1 [W (a.lo * 1073741824)], (!(rootE (tI (W (a.lo * 1073741824))) == 0)) = true]) := by kernel_rfl
theorem rtN_leaf (a : Iv) (hf : fineL [a] = true) (h0 : a.lo < 0) : Gives P 40 #[I a] (I (rootI a)) := by
  have F := rtF hf
  refine gives_of_run mo (rtN_run a) (ps_cons (ivs_ok (by simp)) (ps_cons (neg_f hf) (ps_cons ⟨F.i1, i64one⟩ (ps_cons (P1_W _) (ps_cons (by rw [F.n F.i1 h0]; rfl) ps_nil))))) ?_
  unfold rootI
  rw [decide_eq_false (by omega : ¬ 0 ≤ a.lo), Bool.and_false]
  rfl
theorem rt0_run (a : Iv) : runF P JR 4 40 [I a] (.lit :: (.b false :: (.b false :: []))) =
  some (I (⟨0, 0, true⟩), [fineP [ivs [a]], (!(fineL [a])) = false, nP2 [.int .i64 a.lo, .int .i64 1073741824], P1 [W (a.lo * 1073741824)], surP [W (rtW a.lo), .int .i64 (rootE (tI (W (a.lo * 1073741824))))], nP2 [.int .i64 a.hi, .int .i64 1073741824], P1 [W (a.hi * 1073741824)], surP [W (rcW a.hi), .int .i64 (rootE (tI (W (a.hi * 1073741824))))], P1 [W (rtW a.lo)], P1 [W (rcW a.hi)], (i64B (tI (W (rtW a.lo)))) = false]) := by kernel_rfl
theorem rt0_leaf (a : Iv) (hf : fineL [a] = true) (h0 : 0 ≤ a.lo) (q1 : i64B (rt (a.lo * 1073741824)) = false) : Gives P 40 #[I a] (I (rootI a)) := by
  have F := rtF hf
  obtain ⟨el, eh⟩ := rtW_ok hf h0
  refine gives_of_run mo (rt0_run a) (ps_cons (ivs_ok (by simp)) (ps_cons (neg_f hf) (ps_cons ⟨F.i1, i64one⟩ (ps_cons (P1_W _) (ps_cons ⟨⟨_, rfl⟩, F.z F.i1 h0⟩ (ps_cons ⟨F.i2, i64one⟩ (ps_cons (P1_W _) (ps_cons ⟨⟨_, rfl⟩, F.z F.i2 (by have := fine_iff.1 (fine1 ▸ hf); omega)⟩ (ps_cons (P1_W _) (ps_cons (P1_W _) (ps_cons (by rw [el]; exact q1) ps_nil))))))))))) ?_
  rw [(show rootI a = told ⟨rt (a.lo * 1073741824), rc (a.hi * 1073741824), false⟩ by unfold rootI; rw [hf, decide_eq_true h0]; rfl)]
  rw [told_not (.inl q1)]
  rfl
theorem rt1_run (a : Iv) : runF P JR 4 40 [I a] (.lit :: (.b false :: (.b true :: (.b false :: [])))) =
  some (I (⟨0, 0, true⟩), [fineP [ivs [a]], (!(fineL [a])) = false, nP2 [.int .i64 a.lo, .int .i64 1073741824], P1 [W (a.lo * 1073741824)], surP [W (rtW a.lo), .int .i64 (rootE (tI (W (a.lo * 1073741824))))], nP2 [.int .i64 a.hi, .int .i64 1073741824], P1 [W (a.hi * 1073741824)], surP [W (rcW a.hi), .int .i64 (rootE (tI (W (a.hi * 1073741824))))], P1 [W (rtW a.lo)], P1 [W (rcW a.hi)], (i64B (tI (W (rtW a.lo)))) = true, (i64B (tI (W (rcW a.hi)))) = false]) := by kernel_rfl
theorem rt1_leaf (a : Iv) (hf : fineL [a] = true) (h0 : 0 ≤ a.lo) (q1 : i64B (rt (a.lo * 1073741824)) = true) (q2 : i64B (rc (a.hi * 1073741824)) = false) : Gives P 40 #[I a] (I (rootI a)) := by
  have F := rtF hf
  obtain ⟨el, eh⟩ := rtW_ok hf h0
  refine gives_of_run mo (rt1_run a) (ps_cons (ivs_ok (by simp)) (ps_cons (neg_f hf) (ps_cons ⟨F.i1, i64one⟩ (ps_cons (P1_W _) (ps_cons ⟨⟨_, rfl⟩, F.z F.i1 h0⟩ (ps_cons ⟨F.i2, i64one⟩ (ps_cons (P1_W _) (ps_cons ⟨⟨_, rfl⟩, F.z F.i2 (by have := fine_iff.1 (fine1 ▸ hf); omega)⟩ (ps_cons (P1_W _) (ps_cons (P1_W _) (ps_cons (by rw [el]; exact q1) (ps_cons (by rw [eh]; exact q2) ps_nil)))))))))))) ?_
  rw [(show rootI a = told ⟨rt (a.lo * 1073741824), rc (a.hi * 1073741824), false⟩ by unfold rootI; rw [hf, decide_eq_true h0]; rfl)]
  rw [told_not (.inr q2)]
  rfl
theorem rt2_run (a : Iv) : runF P JR 4 40 [I a] (.lit :: (.b false :: (.b true :: (.b true :: (.lit :: (.b true :: [])))))) =
  some (I (⟨0, 0, true⟩), [fineP [ivs [a]], (!(fineL [a])) = false, nP2 [.int .i64 a.lo, .int .i64 1073741824], P1 [W (a.lo * 1073741824)], surP [W (rtW a.lo), .int .i64 (rootE (tI (W (a.lo * 1073741824))))], nP2 [.int .i64 a.hi, .int .i64 1073741824], P1 [W (a.hi * 1073741824)], surP [W (rcW a.hi), .int .i64 (rootE (tI (W (a.hi * 1073741824))))], P1 [W (rtW a.lo)], P1 [W (rcW a.hi)], (i64B (tI (W (rtW a.lo)))) = true, (i64B (tI (W (rcW a.hi)))) = true, fineP [ivs [⟨(i6 (tI (W (rtW a.lo)))), (i6 (tI (W (rcW a.hi)))), false⟩]], (!(fineL [⟨(i6 (tI (W (rtW a.lo)))), (i6 (tI (W (rcW a.hi)))), false⟩])) = true]) := by kernel_rfl
theorem rt2_leaf (a : Iv) (hf : fineL [a] = true) (h0 : 0 ≤ a.lo) (q1 : i64B (rt (a.lo * 1073741824)) = true) (q2 : i64B (rc (a.hi * 1073741824)) = true) (q3 : fineL [⟨rt (a.lo * 1073741824), rc (a.hi * 1073741824), false⟩] = false) : Gives P 40 #[I a] (I (rootI a)) := by
  have F := rtF hf
  obtain ⟨el, eh⟩ := rtW_ok hf h0
  refine gives_of_run mo (rt2_run a) (ps_cons (ivs_ok (by simp)) (ps_cons (neg_f hf) (ps_cons ⟨F.i1, i64one⟩ (ps_cons (P1_W _) (ps_cons ⟨⟨_, rfl⟩, F.z F.i1 h0⟩ (ps_cons ⟨F.i2, i64one⟩ (ps_cons (P1_W _) (ps_cons ⟨⟨_, rfl⟩, F.z F.i2 (by have := fine_iff.1 (fine1 ▸ hf); omega)⟩ (ps_cons (P1_W _) (ps_cons (P1_W _) (ps_cons (by rw [el]; exact q1) (ps_cons (by rw [eh]; exact q2) (ps_cons (ivs_ok (by simp)) (ps_cons (by rw [el, eh, i6_ok q1, i6_ok q2, q3]; rfl) ps_nil)))))))))))))) ?_
  rw [(show rootI a = told ⟨rt (a.lo * 1073741824), rc (a.hi * 1073741824), false⟩ by unfold rootI; rw [hf, decide_eq_true h0]; rfl)]
  rw [told_no (fine1 ▸ q3)]
  rfl
theorem rt3_run (a : Iv) : runF P JR 4 40 [I a] (.lit :: (.b false :: (.b true :: (.b true :: (.lit :: (.b false :: [])))))) =
  some (I (⟨(i6 (tI (W (rtW a.lo)))), (i6 (tI (W (rcW a.hi)))), false⟩), [fineP [ivs [a]], (!(fineL [a])) = false, nP2 [.int .i64 a.lo, .int .i64 1073741824], P1 [W (a.lo * 1073741824)], surP [W (rtW a.lo), .int .i64 (rootE (tI (W (a.lo * 1073741824))))], nP2 [.int .i64 a.hi, .int .i64 1073741824], P1 [W (a.hi * 1073741824)], surP [W (rcW a.hi), .int .i64 (rootE (tI (W (a.hi * 1073741824))))], P1 [W (rtW a.lo)], P1 [W (rcW a.hi)], (i64B (tI (W (rtW a.lo)))) = true, (i64B (tI (W (rcW a.hi)))) = true, fineP [ivs [⟨(i6 (tI (W (rtW a.lo)))), (i6 (tI (W (rcW a.hi)))), false⟩]], (!(fineL [⟨(i6 (tI (W (rtW a.lo)))), (i6 (tI (W (rcW a.hi)))), false⟩])) = false]) := by kernel_rfl
theorem rt3_leaf (a : Iv) (hf : fineL [a] = true) (h0 : 0 ≤ a.lo) (q1 : i64B (rt (a.lo * 1073741824)) = true) (q2 : i64B (rc (a.hi * 1073741824)) = true) (q3 : fineL [⟨rt (a.lo * 1073741824), rc (a.hi * 1073741824), false⟩] = true) : Gives P 40 #[I a] (I (rootI a)) := by
  have F := rtF hf
  obtain ⟨el, eh⟩ := rtW_ok hf h0
  refine gives_of_run mo (rt3_run a) (ps_cons (ivs_ok (by simp)) (ps_cons (neg_f hf) (ps_cons ⟨F.i1, i64one⟩ (ps_cons (P1_W _) (ps_cons ⟨⟨_, rfl⟩, F.z F.i1 h0⟩ (ps_cons ⟨F.i2, i64one⟩ (ps_cons (P1_W _) (ps_cons ⟨⟨_, rfl⟩, F.z F.i2 (by have := fine_iff.1 (fine1 ▸ hf); omega)⟩ (ps_cons (P1_W _) (ps_cons (P1_W _) (ps_cons (by rw [el]; exact q1) (ps_cons (by rw [eh]; exact q2) (ps_cons (ivs_ok (by simp)) (ps_cons (by rw [el, eh, i6_ok q1, i6_ok q2, q3]; rfl) ps_nil)))))))))))))) ?_
  rw [(show rootI a = told ⟨rt (a.lo * 1073741824), rc (a.hi * 1073741824), false⟩ by unfold rootI; rw [hf, decide_eq_true h0]; rfl)]
  rw [told_ok (fine1 ▸ q3), el, eh, i6_ok q1, i6_ok q2]
theorem root_gives (args : List Value) (h : iP1 args) : Gives P 40 args.toArray ((one1 fun a => I (rootI a)) args) := by
  unfold iP1 at h
  split at h
  · obtain ⟨a, rfl⟩ := h
    show Gives P _ #[I a] (I (rootI a))
    cases hf : fineL [a] with
    | false => exact rtF_leaf a hf
    | true =>
     by_cases hn : a.lo < 0
     · exact rtN_leaf a hf hn
     · have h0 : 0 ≤ a.lo := by omega
       cases q1 : i64B (rt (a.lo * 1073741824)) with
        | false => exact rt0_leaf a hf h0 q1
        | true =>
          cases q2 : i64B (rc (a.hi * 1073741824)) with
          | false => exact rt1_leaf a hf h0 q1 q2
          | true =>
            cases q3 : fineL [⟨rt (a.lo * 1073741824), rc (a.hi * 1073741824), false⟩] with
            | false => exact rt2_leaf a hf h0 q1 q2 q3
            | true => exact rt3_leaf a hf h0 q1 q2 q3
  · exact h.elim
noncomputable def cRoot : Ctr P := ⟨40, iP1, one1 fun a => I (rootI a), root_gives⟩
theorem sgF_run (a : Iv) : runF P JN 1 32 [I a] (.lit :: (.b true :: [])) =
  some (.tuple #[.int .i64 0, .bool false], [fineP [ivs [a]], (!(fineL [a])) = true]) := by kernel_rfl
theorem sgF_leaf (a : Iv) (hf : fineL [a] = false) : Gives P 32 #[I a] (.tuple #[.int .i64 (signN a), .bool (signB a)]) := by
  refine gives_of_run mo (sgF_run a) (ps_cons (ivs_ok (by simp)) (ps_cons (neg_t hf) ps_nil)) ?_
  unfold signN signB
  rw [hf]
  rfl
theorem sg1_run (a : Iv) : runF P JN 1 32 [I a] (.lit :: (.b false :: (.b true :: []))) =
  some (.tuple #[.int .i64 1, .bool true], [fineP [ivs [a]], (!(fineL [a])) = false, (decide (a.lo > 0)) = true]) := by kernel_rfl
theorem sg1_leaf (a : Iv) (hf : fineL [a] = true) (q1 : decide (a.lo > 0) = true) : Gives P 32 #[I a] (.tuple #[.int .i64 (signN a), .bool (signB a)]) := by
  refine gives_of_run mo (sg1_run a) (ps_cons (ivs_ok (by simp)) (ps_cons (neg_f hf) (ps_cons q1 ps_nil))) ?_
  unfold signN signB
  rw [hf, q1, if_pos (of_decide_eq_true q1)]
  rfl
theorem sg2_run (a : Iv) : runF P JN 1 32 [I a] (.lit :: (.b false :: (.b false :: (.b true :: [])))) =
  some (.tuple #[.int .i64 (-1), .bool true], [fineP [ivs [a]], (!(fineL [a])) = false, (decide (a.lo > 0)) = false, (decide (a.hi < 0)) = true]) := by kernel_rfl
theorem sg2_leaf (a : Iv) (hf : fineL [a] = true) (q1 : decide (a.lo > 0) = false) (q2 : decide (a.hi < 0) = true) : Gives P 32 #[I a] (.tuple #[.int .i64 (signN a), .bool (signB a)]) := by
  refine gives_of_run mo (sg2_run a) (ps_cons (ivs_ok (by simp)) (ps_cons (neg_f hf) (ps_cons q1 (ps_cons q2 ps_nil)))) ?_
  unfold signN signB
  rw [hf, q1, q2, if_neg (of_decide_eq_false q1), if_pos (of_decide_eq_true q2)]
  rfl
theorem sg3_run (a : Iv) : runF P JN 1 32 [I a] (.lit :: (.b false :: (.b false :: (.b false :: [])))) =
  some (.tuple #[.int .i64 0, .bool (a.hi == a.lo)], [fineP [ivs [a]], (!(fineL [a])) = false, (decide (a.lo > 0)) = false, (decide (a.hi < 0)) = false]) := by kernel_rfl
theorem sg3_leaf (a : Iv) (hf : fineL [a] = true) (q1 : decide (a.lo > 0) = false) (q2 : decide (a.hi < 0) = false) : Gives P 32 #[I a] (.tuple #[.int .i64 (signN a), .bool (signB a)]) := by
  refine gives_of_run mo (sg3_run a) (ps_cons (ivs_ok (by simp)) (ps_cons (neg_f hf) (ps_cons q1 (ps_cons q2 ps_nil)))) ?_
  unfold signN signB
  rw [hf, q1, q2, if_neg (of_decide_eq_false q1), if_neg (of_decide_eq_false q2)]
  rfl
theorem sign_gives (args : List Value) (h : iP1 args) : Gives P 32 args.toArray ((one1 fun a => .tuple #[.int .i64 (signN a), .bool (signB a)]) args) := by
  unfold iP1 at h
  split at h
  · obtain ⟨a, rfl⟩ := h
    show Gives P _ #[I a] (.tuple #[.int .i64 (signN a), .bool (signB a)])
    cases hf : fineL [a] with
    | false => exact sgF_leaf a hf
    | true =>
      cases q1 : decide (a.lo > 0) with
      | true => exact sg1_leaf a hf q1
      | false =>
        cases q2 : decide (a.hi < 0) with
        | true => exact sg2_leaf a hf q1 q2
        | false => exact sg3_leaf a hf q1 q2
  · exact h.elim
noncomputable def cSign : Ctr P := ⟨32, iP1, one1 fun a => .tuple #[.int .i64 (signN a), .bool (signB a)], sign_gives⟩
noncomputable def JI : Env P := ⟨⟨[cQuot] ++ ivalC, ivalD⟩, [], 10, []⟩
theorem inv_run (a : Iv) : runF P JI 1 36 [I a] [] =
  some (I (quotI (ofI 1) a), [nP1 [.int .i64 1], iP2 [I (ofI 1), I a]]) := by kernel_rfl
theorem inv_leaf (a : Iv)  : Gives P 36 #[I a] (I (inverseI a)) := by
  refine gives_of_run mo (inv_run a) (ps_cons (by unfold nP1 I64; omega) (ps_cons ⟨⟨_, rfl⟩, _, rfl⟩ ps_nil)) ?_
  rfl
theorem inverse_gives (args : List Value) (h : iP1 args) : Gives P 36 args.toArray ((one1 fun a => I (inverseI a)) args) := by
  unfold iP1 at h
  split at h
  · obtain ⟨a, rfl⟩ := h
    show Gives P _ #[I a] (I (inverseI a))
    exact inv_leaf a
  · exact h.elim
noncomputable def cInverse : Ctr P := ⟨36, iP1, one1 fun a => I (inverseI a), inverse_gives⟩
noncomputable def JC : Env P := ⟨⟨[cSign, cRoot, cInverse] ++ ivalC, ivalD⟩, [], 10, []⟩
theorem cube_cond (a : Iv) : (fineL [a] && decide (a.lo > 0)) = (signB a && !(decide (signN a ≤ 0))) := by
  unfold signB signN
  cases hf : fineL [a] with
  | false => rfl
  | true =>
    rw [fine1] at hf
    have ra := fine_iff.1 hf
    rw [Bool.true_and, Bool.true_and, cond_true]
    by_cases h : a.lo > 0
    · rw [if_pos h, decide_eq_true h]; rfl
    · rw [if_neg h, decide_eq_false h]
      by_cases h2 : a.hi < 0
      · rw [if_pos h2]; simp
      · rw [if_neg h2]; simp
theorem cu0_run (a : Iv) : runF P JC 1 42 [I a] (.b true :: []) =
  some (I (⟨0, 0, true⟩), [iP1 [I a], (!(signB a)) = true]) := by kernel_rfl
theorem cu0_leaf (a : Iv) (q1 : (!(signB a)) = true) : Gives P 42 #[I a] (I (cubeI a)) := by
  refine gives_of_run mo (cu0_run a) (ps_cons ⟨_, rfl⟩ (ps_cons q1 ps_nil)) ?_
  unfold cubeI
  rw [cube_cond, (by simpa using q1 : signB a = false)]
  rfl
theorem cu1_run (a : Iv) : runF P JC 1 42 [I a] (.b false :: (.b true :: [])) =
  some (I (⟨0, 0, true⟩), [iP1 [I a], (!(signB a)) = false, (decide (signN a ≤ 0)) = true]) := by kernel_rfl
theorem cu1_leaf (a : Iv) (q1 : (!(signB a)) = false) (q2 : decide (signN a ≤ 0) = true) : Gives P 42 #[I a] (I (cubeI a)) := by
  refine gives_of_run mo (cu1_run a) (ps_cons ⟨_, rfl⟩ (ps_cons q1 (ps_cons q2 ps_nil))) ?_
  unfold cubeI
  rw [cube_cond, (by simpa using q1 : signB a = true), q2]
  rfl
theorem cu2_run (a : Iv) : runF P JC 1 42 [I a] (.b false :: (.b false :: [])) =
  some (I (inverseI (mulI a (rootI a))), [iP1 [I a], (!(signB a)) = false, (decide (signN a ≤ 0)) = false, iP1 [I a], iP2 [I a, I (rootI a)], iP1 [I (mulI a (rootI a))]]) := by kernel_rfl
theorem cu2_leaf (a : Iv) (q1 : (!(signB a)) = false) (q2 : decide (signN a ≤ 0) = false) : Gives P 42 #[I a] (I (cubeI a)) := by
  refine gives_of_run mo (cu2_run a) (ps_cons ⟨_, rfl⟩ (ps_cons q1 (ps_cons q2 (ps_cons ⟨_, rfl⟩ (ps_cons ⟨⟨_, rfl⟩, _, rfl⟩ (ps_cons ⟨_, rfl⟩ ps_nil)))))) ?_
  unfold cubeI
  rw [cube_cond, (by simpa using q1 : signB a = true), q2]
  rfl
theorem cube_gives (args : List Value) (h : iP1 args) : Gives P 42 args.toArray ((one1 fun a => I (cubeI a)) args) := by
  unfold iP1 at h
  split at h
  · obtain ⟨a, rfl⟩ := h
    show Gives P _ #[I a] (I (cubeI a))
    cases q1 : (!(signB a)) with
    | true => exact cu0_leaf a q1
    | false =>
      cases q2 : decide (signN a ≤ 0) with
      | true => exact cu1_leaf a q1 q2
      | false => exact cu2_leaf a q1 q2
  · exact h.elim
noncomputable def cCube : Ctr P := ⟨42, iP1, one1 fun a => I (cubeI a), cube_gives⟩
noncomputable def invC : List (Ctr P) := [cQuot, cInverse, cSquare, cRoot, cSign, cCube]
end Go.Nv
