/-
 Contracts of package kepler. Printed by keC.py.
-/
import Derived.Test.YtekplphjbngabaaGreatDoorKeB
import Derived.Test.YtekplphjbngabaaGreatDoorWvD
import Derived.Test.YtekplphjbngabaaGreatDoorIna
set_option maxRecDepth 100000
namespace Go.Ke
open Go Go.RowKit Go.Sx Go.Nm Go.Wd Go.Qt Go.Iv Go.An Go.Wv Go.Nv Go.Proofs
def Ob (m e : Int) : Value := .agg #[.int .i64 m, .int .i64 e]
def gaP : List Value → Prop
 | [o, .int .i64 p] => (∃ m e, o = Ob m e ∧ I64 m ∧ I64 e) ∧ I64 p
 | _ => False
def ga2 (f : Int → Int → Int → Value) : List Value → Value
 | [.agg cs, .int _ p] => match cs.toList with
  | [.int _ m, .int _ e] => f m e p
  | _ => undef
 | _ => undef
noncomputable def KG : Env P := ⟨⟨waveC ++ ivalC, ivalD⟩, [], 10, []⟩
theorem ga_run (m e p : Int) : runF P KG 1 181 [Ob m e, .int .i64 p] [] = some (I (subI (subI (pointI p) (mulI (pointI e) (waveI false (pointI p)))) (pointI m)), [nP1 [.int .i64 p], nP1 [.int .i64 e], iP1 [I (pointI p)], iP2 [I (pointI e), I (waveI false (pointI p))], iP2 [I (pointI p), I (mulI (pointI e) (waveI false (pointI p)))], nP1 [.int .i64 m], iP2 [I (subI (pointI p) (mulI (pointI e) (waveI false (pointI p)))), I (pointI m)]]) := by kernel_rfl
theorem ga_gives (args : List Value) (h : gaP args) : Gives P 181 args.toArray (ga2 (fun m e p => I (gapI m e p)) args) := by
 unfold gaP at h
 split at h
 · rename_i p
   obtain ⟨⟨m, e, rfl, hm, he⟩, hp⟩ := h
   exact gives_of_run (u := I (gapI m e p)) mo (ga_run m e p) (ps_cons hp (ps_cons he (ps_cons ⟨_, rfl⟩ (ps_cons ⟨⟨_, rfl⟩, _, rfl⟩ (ps_cons ⟨⟨_, rfl⟩, _, rfl⟩ (ps_cons hm (ps_cons ⟨⟨_, rfl⟩, _, rfl⟩ ps_nil))))))) rfl
 · exact h.elim
noncomputable def cGap : Ctr P := ⟨181, gaP, ga2 (fun m e p => I (gapI m e p)), ga_gives⟩
noncomputable def KS : Env P := ⟨⟨cGap :: cSign :: ivalC, ivalD⟩, [], 10, []⟩
theorem sg_run (m e p : Int) : runF P KS 1 155 [Ob m e, .int .i64 p] [] = some (.int .i64 (signN (gapI m e p)), [gaP [.agg #[.int .i64 m, .int .i64 e], .int .i64 p], iP1 [I (gapI m e p)]]) := by kernel_rfl
theorem sg_gives (args : List Value) (h : gaP args) : Gives P 155 args.toArray (ga2 (fun m e p => .int .i64 (sg m e p)) args) := by
 unfold gaP at h
 split at h
 · rename_i p
   obtain ⟨⟨m, e, rfl, hm, he⟩, hp⟩ := h
   exact gives_of_run (u := .int .i64 (sg m e p)) mo (sg_run m e p) (ps_cons ⟨⟨_, _, rfl, hm, he⟩, hp⟩ (ps_cons ⟨_, rfl⟩ ps_nil)) rfl
 · exact h.elim
noncomputable def cSgn : Ctr P := ⟨155, gaP, ga2 (fun m e p => .int .i64 (sg m e p)), sg_gives⟩
noncomputable def KH : Env P := ⟨⟨[cSgn], []⟩, [], 10, []⟩
noncomputable def hRec (m e d f : Int) : LoopS := Qt.recOf (innerOf P 52 0) 33 [(13, .fn 154 [(9, 0), (10, 0)]), (12, .v (.int .i64 d)), (11, .v (.agg #[.int .i64 m, .int .i64 e])), (8, .ptr 4 0), (7, .ptr 3 0), (6, .ptr 2 0), (5, .ptr 1 0), (3, .ptr 0 0), (0, .v (.agg #[.int .i64 m, .int .i64 e])), (1, .v (.int .i64 d)), (2, .v (.int .i64 f))]
noncomputable def hBrk (m e d f : Int) : LoopS := { hRec m e d f with st := .done, pend := some (.exit 0) }
noncomputable def hBody : Code := bodyOf (innerOf P 154 0)
noncomputable def hRest : Code := (findLabel hBody 0).getD .skip
noncomputable def hSt0 (m e d f : Int) : St := ⟨[(0, .yld 14), (1, .ptr 9 0), (2, .ptr 10 0)], [(0, (.whole (.agg #[.int .i64 m, .int .i64 e]), 65)), (1, (.whole (.int .i64 f), 3)), (2, (.whole (.int .i64 0), 3)), (3, (.whole (.int .i64 (-1)), 3)), (4, (.whole (.bool false), 4)), (9, (.whole (.agg #[.int .i64 m, .int .i64 e]), 65)), (10, (.whole (.int .i64 d), 3))], [(14, hRec m e d f)], [14, 10, 9, 4, 3, 2, 1, 0], []⟩
noncomputable def hSt (m e d f x y a s : Int) (b : Bool) : St := ⟨[(5, .v (.int .i64 y)), (4, .v (.int .i64 x)), (0, .yld 14), (1, .ptr 9 0), (2, .ptr 10 0)], [(0, (.whole (.agg #[.int .i64 m, .int .i64 e]), 65)), (1, (.whole (.int .i64 f), 3)), (2, (.whole (.int .i64 a), 3)), (3, (.whole (.int .i64 s), 3)), (4, (.whole (.bool b), 4)), (9, (.whole (.agg #[.int .i64 m, .int .i64 e]), 65)), (10, (.whole (.int .i64 d), 3))], [(14, hRec m e d f)], [14, 10, 9, 4, 3, 2, 1, 0], []⟩
noncomputable def hFin (m e d f a s : Int) (b : Bool) : St := ⟨[(0, .yld 14), (1, .ptr 9 0), (2, .ptr 10 0)], [(0, (.whole (.agg #[.int .i64 m, .int .i64 e]), 65)), (1, (.whole (.int .i64 f), 3)), (2, (.whole (.int .i64 a), 3)), (3, (.whole (.int .i64 s), 3)), (4, (.whole (.bool b), 4)), (9, (.whole (.agg #[.int .i64 m, .int .i64 e]), 65)), (10, (.whole (.int .i64 d), 3))], [(14, hRec m e d f)], [14, 10, 9, 4, 3, 2, 1, 0], []⟩
noncomputable def hFinX (m e d f a s : Int) (b : Bool) : St := ⟨[(0, .yld 14), (1, .ptr 9 0), (2, .ptr 10 0)], [(0, (.whole (.agg #[.int .i64 m, .int .i64 e]), 65)), (1, (.whole (.int .i64 f), 3)), (2, (.whole (.int .i64 a), 3)), (3, (.whole (.int .i64 s), 3)), (4, (.whole (.bool b), 4)), (9, (.whole (.agg #[.int .i64 m, .int .i64 e]), 65)), (10, (.whole (.int .i64 d), 3))], [(14, hBrk m e d f)], [14, 10, 9, 4, 3, 2, 1, 0], []⟩
noncomputable def hpA (m e d f x y _a s : Int) (_b : Bool) (u w a2 s2 : Int) (b2 : Bool) : List Prop :=
 [(IntKind.i64.wrap (s + 1) == f) = false, (decide (mx (IntKind.i64.wrap (x - y)) (IntKind.i64.wrap (y - x)) ≤ 1)) = false, gaP [.agg #[.int .i64 m, .int .i64 e], .int .i64 ((IntKind.i64.wrap (x + y)).fdiv (2 ^ 1))], (sg m e ((IntKind.i64.wrap (x + y)).fdiv (2 ^ 1)) == d) = true, (.int .i64 y : Value) = .int .i64 w, (.int .i64 ((IntKind.i64.wrap (x + y)).fdiv (2 ^ 1)) : Value) = .int .i64 u, (.yld 14 : SV) = .yld 14, (.ptr 9 0 : SV) = .ptr 9 0, (.ptr 10 0 : SV) = .ptr 10 0, (.agg #[.int .i64 m, .int .i64 e] : Value) = .agg #[.int .i64 m, .int .i64 e], (.int .i64 f : Value) = .int .i64 f, (.int .i64 x : Value) = .int .i64 a2, (.int .i64 (IntKind.i64.wrap (s + 1)) : Value) = .int .i64 s2, (.bool (decide (mx (IntKind.i64.wrap (x - y)) (IntKind.i64.wrap (y - x)) ≤ 1)) : Value) = .bool b2, (.agg #[.int .i64 m, .int .i64 e] : Value) = .agg #[.int .i64 m, .int .i64 e], (.int .i64 d : Value) = .int .i64 d, hRec m e d f = hRec m e d f]
theorem hrA (m e d f x y a s : Int) (b : Bool) (u w a2 s2 : Int) (b2 : Bool) (k : Nat) : stepF P KH 3 43 hRest (hSt m e d f x y a s b) (.b false :: (.lit :: (.b false :: (.b true :: [])))) 1000 (fun _ => some (hSt m e d f u w a2 s2 b2)) k = some (.goto 0, k, hpA m e d f x y a s b u w a2 s2 b2) := by kernel_rfl
noncomputable def ipA (m e d f u w a2 s2 : Int) (b2 : Bool) : List Prop :=
 [(0 == f) = false, (decide (mx (IntKind.i64.wrap (IntKind.i64.wrap (m + (IntKind.i64.wrap (d * 1073741824))) - (IntKind.i64.wrap (m - (IntKind.i64.wrap (d * 1073741824)))))) (IntKind.i64.wrap (IntKind.i64.wrap (m - (IntKind.i64.wrap (d * 1073741824))) - (IntKind.i64.wrap (m + (IntKind.i64.wrap (d * 1073741824)))))) ≤ 1)) = false, gaP [.agg #[.int .i64 m, .int .i64 e], .int .i64 ((IntKind.i64.wrap (IntKind.i64.wrap (m + (IntKind.i64.wrap (d * 1073741824))) + (IntKind.i64.wrap (m - (IntKind.i64.wrap (d * 1073741824)))))).fdiv (2 ^ 1))], (sg m e ((IntKind.i64.wrap (IntKind.i64.wrap (m + (IntKind.i64.wrap (d * 1073741824))) + (IntKind.i64.wrap (m - (IntKind.i64.wrap (d * 1073741824)))))).fdiv (2 ^ 1)) == d) = true, (.int .i64 (IntKind.i64.wrap (m - (IntKind.i64.wrap (d * 1073741824)))) : Value) = .int .i64 w, (.int .i64 ((IntKind.i64.wrap (IntKind.i64.wrap (m + (IntKind.i64.wrap (d * 1073741824))) + (IntKind.i64.wrap (m - (IntKind.i64.wrap (d * 1073741824)))))).fdiv (2 ^ 1)) : Value) = .int .i64 u, (.yld 14 : SV) = .yld 14, (.ptr 9 0 : SV) = .ptr 9 0, (.ptr 10 0 : SV) = .ptr 10 0, (.agg #[.int .i64 m, .int .i64 e] : Value) = .agg #[.int .i64 m, .int .i64 e], (.int .i64 f : Value) = .int .i64 f, (.int .i64 (IntKind.i64.wrap (m + (IntKind.i64.wrap (d * 1073741824)))) : Value) = .int .i64 a2, (.int .i64 0 : Value) = .int .i64 s2, (.bool (decide (mx (IntKind.i64.wrap (IntKind.i64.wrap (m + (IntKind.i64.wrap (d * 1073741824))) - (IntKind.i64.wrap (m - (IntKind.i64.wrap (d * 1073741824)))))) (IntKind.i64.wrap (IntKind.i64.wrap (m - (IntKind.i64.wrap (d * 1073741824))) - (IntKind.i64.wrap (m + (IntKind.i64.wrap (d * 1073741824)))))) ≤ 1)) : Value) = .bool b2, (.agg #[.int .i64 m, .int .i64 e] : Value) = .agg #[.int .i64 m, .int .i64 e], (.int .i64 d : Value) = .int .i64 d, hRec m e d f = hRec m e d f]
theorem irA (m e d f u w a2 s2 : Int) (b2 : Bool) (k : Nat) : stepF P KH 3 43 hBody (hSt0 m e d f) (.b false :: (.lit :: (.b false :: (.b true :: [])))) 1000 (fun _ => some (hSt m e d f u w a2 s2 b2)) k = some (.goto 0, k, ipA m e d f u w a2 s2 b2) := by kernel_rfl
noncomputable def hpB (m e d f x y _a s : Int) (_b : Bool) (u w a2 s2 : Int) (b2 : Bool) : List Prop :=
 [(IntKind.i64.wrap (s + 1) == f) = false, (decide (mx (IntKind.i64.wrap (x - y)) (IntKind.i64.wrap (y - x)) ≤ 1)) = false, gaP [.agg #[.int .i64 m, .int .i64 e], .int .i64 ((IntKind.i64.wrap (x + y)).fdiv (2 ^ 1))], (sg m e ((IntKind.i64.wrap (x + y)).fdiv (2 ^ 1)) == d) = false, (.int .i64 ((IntKind.i64.wrap (x + y)).fdiv (2 ^ 1)) : Value) = .int .i64 w, (.int .i64 x : Value) = .int .i64 u, (.yld 14 : SV) = .yld 14, (.ptr 9 0 : SV) = .ptr 9 0, (.ptr 10 0 : SV) = .ptr 10 0, (.agg #[.int .i64 m, .int .i64 e] : Value) = .agg #[.int .i64 m, .int .i64 e], (.int .i64 f : Value) = .int .i64 f, (.int .i64 x : Value) = .int .i64 a2, (.int .i64 (IntKind.i64.wrap (s + 1)) : Value) = .int .i64 s2, (.bool (decide (mx (IntKind.i64.wrap (x - y)) (IntKind.i64.wrap (y - x)) ≤ 1)) : Value) = .bool b2, (.agg #[.int .i64 m, .int .i64 e] : Value) = .agg #[.int .i64 m, .int .i64 e], (.int .i64 d : Value) = .int .i64 d, hRec m e d f = hRec m e d f]
theorem hrB (m e d f x y a s : Int) (b : Bool) (u w a2 s2 : Int) (b2 : Bool) (k : Nat) : stepF P KH 3 43 hRest (hSt m e d f x y a s b) (.b false :: (.lit :: (.b false :: (.b false :: [])))) 1000 (fun _ => some (hSt m e d f u w a2 s2 b2)) k = some (.goto 0, k, hpB m e d f x y a s b u w a2 s2 b2) := by kernel_rfl
noncomputable def ipB (m e d f u w a2 s2 : Int) (b2 : Bool) : List Prop :=
 [(0 == f) = false, (decide (mx (IntKind.i64.wrap (IntKind.i64.wrap (m + (IntKind.i64.wrap (d * 1073741824))) - (IntKind.i64.wrap (m - (IntKind.i64.wrap (d * 1073741824)))))) (IntKind.i64.wrap (IntKind.i64.wrap (m - (IntKind.i64.wrap (d * 1073741824))) - (IntKind.i64.wrap (m + (IntKind.i64.wrap (d * 1073741824)))))) ≤ 1)) = false, gaP [.agg #[.int .i64 m, .int .i64 e], .int .i64 ((IntKind.i64.wrap (IntKind.i64.wrap (m + (IntKind.i64.wrap (d * 1073741824))) + (IntKind.i64.wrap (m - (IntKind.i64.wrap (d * 1073741824)))))).fdiv (2 ^ 1))], (sg m e ((IntKind.i64.wrap (IntKind.i64.wrap (m + (IntKind.i64.wrap (d * 1073741824))) + (IntKind.i64.wrap (m - (IntKind.i64.wrap (d * 1073741824)))))).fdiv (2 ^ 1)) == d) = false, (.int .i64 ((IntKind.i64.wrap (IntKind.i64.wrap (m + (IntKind.i64.wrap (d * 1073741824))) + (IntKind.i64.wrap (m - (IntKind.i64.wrap (d * 1073741824)))))).fdiv (2 ^ 1)) : Value) = .int .i64 w, (.int .i64 (IntKind.i64.wrap (m + (IntKind.i64.wrap (d * 1073741824)))) : Value) = .int .i64 u, (.yld 14 : SV) = .yld 14, (.ptr 9 0 : SV) = .ptr 9 0, (.ptr 10 0 : SV) = .ptr 10 0, (.agg #[.int .i64 m, .int .i64 e] : Value) = .agg #[.int .i64 m, .int .i64 e], (.int .i64 f : Value) = .int .i64 f, (.int .i64 (IntKind.i64.wrap (m + (IntKind.i64.wrap (d * 1073741824)))) : Value) = .int .i64 a2, (.int .i64 0 : Value) = .int .i64 s2, (.bool (decide (mx (IntKind.i64.wrap (IntKind.i64.wrap (m + (IntKind.i64.wrap (d * 1073741824))) - (IntKind.i64.wrap (m - (IntKind.i64.wrap (d * 1073741824)))))) (IntKind.i64.wrap (IntKind.i64.wrap (m - (IntKind.i64.wrap (d * 1073741824))) - (IntKind.i64.wrap (m + (IntKind.i64.wrap (d * 1073741824)))))) ≤ 1)) : Value) = .bool b2, (.agg #[.int .i64 m, .int .i64 e] : Value) = .agg #[.int .i64 m, .int .i64 e], (.int .i64 d : Value) = .int .i64 d, hRec m e d f = hRec m e d f]
theorem irB (m e d f u w a2 s2 : Int) (b2 : Bool) (k : Nat) : stepF P KH 3 43 hBody (hSt0 m e d f) (.b false :: (.lit :: (.b false :: (.b false :: [])))) 1000 (fun _ => some (hSt m e d f u w a2 s2 b2)) k = some (.goto 0, k, ipB m e d f u w a2 s2 b2) := by kernel_rfl
noncomputable def hpX (m e d f x y _a s : Int) (_b : Bool) (a2 s2 : Int) (b2 : Bool) : List Prop :=
 [(IntKind.i64.wrap (s + 1) == f) = true, (.yld 14 : SV) = .yld 14, (.ptr 9 0 : SV) = .ptr 9 0, (.ptr 10 0 : SV) = .ptr 10 0, (.agg #[.int .i64 m, .int .i64 e] : Value) = .agg #[.int .i64 m, .int .i64 e], (.int .i64 f : Value) = .int .i64 f, (.int .i64 x : Value) = .int .i64 a2, (.int .i64 (IntKind.i64.wrap (s + 1)) : Value) = .int .i64 s2, (.bool (decide (mx (IntKind.i64.wrap (x - y)) (IntKind.i64.wrap (y - x)) ≤ 1)) : Value) = .bool b2, (.agg #[.int .i64 m, .int .i64 e] : Value) = .agg #[.int .i64 m, .int .i64 e], (.int .i64 d : Value) = .int .i64 d, hBrk m e d f = hBrk m e d f]
theorem hrX (m e d f x y a s : Int) (b : Bool) (a2 s2 : Int) (b2 : Bool) (k : Nat) : stepF P KH 3 43 hRest (hSt m e d f x y a s b) (.b true :: []) 1000 (fun _ => some (hFinX m e d f a2 s2 b2)) k = some (.ret, k, hpX m e d f x y a s b a2 s2 b2) := by kernel_rfl
noncomputable def ipX (m e d f a2 s2 : Int) (b2 : Bool) : List Prop :=
 [(0 == f) = true, (.yld 14 : SV) = .yld 14, (.ptr 9 0 : SV) = .ptr 9 0, (.ptr 10 0 : SV) = .ptr 10 0, (.agg #[.int .i64 m, .int .i64 e] : Value) = .agg #[.int .i64 m, .int .i64 e], (.int .i64 f : Value) = .int .i64 f, (.int .i64 (IntKind.i64.wrap (m + (IntKind.i64.wrap (d * 1073741824)))) : Value) = .int .i64 a2, (.int .i64 0 : Value) = .int .i64 s2, (.bool (decide (mx (IntKind.i64.wrap (IntKind.i64.wrap (m + (IntKind.i64.wrap (d * 1073741824))) - (IntKind.i64.wrap (m - (IntKind.i64.wrap (d * 1073741824)))))) (IntKind.i64.wrap (IntKind.i64.wrap (m - (IntKind.i64.wrap (d * 1073741824))) - (IntKind.i64.wrap (m + (IntKind.i64.wrap (d * 1073741824)))))) ≤ 1)) : Value) = .bool b2, (.agg #[.int .i64 m, .int .i64 e] : Value) = .agg #[.int .i64 m, .int .i64 e], (.int .i64 d : Value) = .int .i64 d, hBrk m e d f = hBrk m e d f]
theorem irX (m e d f a2 s2 : Int) (b2 : Bool) (k : Nat) : stepF P KH 3 43 hBody (hSt0 m e d f) (.b true :: []) 1000 (fun _ => some (hFinX m e d f a2 s2 b2)) k = some (.ret, k, ipX m e d f a2 s2 b2) := by kernel_rfl
noncomputable def hpY (m e d f x y _a s : Int) (_b : Bool) (a2 s2 : Int) (b2 : Bool) : List Prop :=
 [(IntKind.i64.wrap (s + 1) == f) = false, (decide (mx (IntKind.i64.wrap (x - y)) (IntKind.i64.wrap (y - x)) ≤ 1)) = true, (.yld 14 : SV) = .yld 14, (.ptr 9 0 : SV) = .ptr 9 0, (.ptr 10 0 : SV) = .ptr 10 0, (.agg #[.int .i64 m, .int .i64 e] : Value) = .agg #[.int .i64 m, .int .i64 e], (.int .i64 f : Value) = .int .i64 f, (.int .i64 x : Value) = .int .i64 a2, (.int .i64 (IntKind.i64.wrap (s + 1)) : Value) = .int .i64 s2, (.bool (decide (mx (IntKind.i64.wrap (x - y)) (IntKind.i64.wrap (y - x)) ≤ 1)) : Value) = .bool b2, (.agg #[.int .i64 m, .int .i64 e] : Value) = .agg #[.int .i64 m, .int .i64 e], (.int .i64 d : Value) = .int .i64 d, hRec m e d f = hRec m e d f]
theorem hrY (m e d f x y a s : Int) (b : Bool) (a2 s2 : Int) (b2 : Bool) (k : Nat) : stepF P KH 3 43 hRest (hSt m e d f x y a s b) (.b false :: (.lit :: (.b true :: []))) 1000 (fun _ => some (hFin m e d f a2 s2 b2)) k = some (.ret, k, hpY m e d f x y a s b a2 s2 b2) := by kernel_rfl
structure Hy (m e d f : Int) : Prop where
 h1 : 0 ≤ m
 h2 : m ≤ 3221225472
 e1 : 0 ≤ e
 e2 : e ≤ 966367641
 hs : d = -1 ∨ d = 1
 f0 : 0 ≤ f
 f1 : f ≤ 40
structure Hw (k : Nat) (x y : Int) : Prop where
 a : IntKind.i64.wrap (x - y) = x - y
 b : IntKind.i64.wrap (y - x) = y - x
 c : (IntKind.i64.wrap (x + y)).fdiv (2 ^ 1) = (x + y) / 2
 n : decide (mx (x - y) (y - x) ≤ 1) = decide (k = 31)
 i : I64 ((x + y) / 2)
theorem hw {m e d f : Int} (H : Hy m e d f) {k : Nat} (hk : k ≤ 31) : Hw k (hv m e d k).1 (hv m e d k).2 := by
 have F := hv_facts H.h1 H.h2 H.e1 H.e2 H.hs k hk
 have h1 := H.h1
 have h2 := H.h2
 have dd := F.d
 have a1 := F.a1
 have a2 := F.a2
 have b1 := F.b1
 have b2 := F.b2
 have hs := H.hs
 generalize (hv m e d k).1 = x at *
 generalize (hv m e d k).2 = y at *
 have p1 : k < 31 → (2 : Int) ≤ 2 ^ (31 - k) := fun h => by
  have : 31 - k = (31 - k - 1) + 1 := by omega
  rw [this, Int.pow_succ]
  have : (0 : Int) < 2 ^ (31 - k - 1) := Int.pow_pos (by decide)
  omega
 have p2 : k = 31 → (2 : Int) ^ (31 - k) = 1 := fun h => by rw [h]; rfl
 refine ⟨Iv.wr (by omega) (by omega), Iv.wr (by omega) (by omega), ?_, ?_, by unfold I64; omega⟩
 · rw [Iv.wr (by omega) (by omega), Int.fdiv_eq_ediv_of_nonneg _ (by decide)]; rfl
 · rw [decide_eq_decide]
   generalize (2 : Int) ^ (31 - k) = q at *
   unfold mx
   rcases Nat.lt_or_ge k 31 with hlt | hge
   · have := p1 hlt
     rcases hs with rfl | rfl <;> split <;> omega
   · have := p2 (by omega)
     rcases hs with rfl | rfl <;> split <;> omega
theorem hv_s {m e d : Int} {k : Nat} (h : (sg m e (((hv m e d k).1 + (hv m e d k).2) / 2) == d) = true) : hv m e d (k + 1) = (((hv m e d k).1 + (hv m e d k).2) / 2, (hv m e d k).2) := by
 have h' : sg m e (((hv m e d k).1 + (hv m e d k).2) / 2) = d := by simpa using h
 show (if sg m e (((hv m e d k).1 + (hv m e d k).2) / 2) = d then (((hv m e d k).1 + (hv m e d k).2) / 2, (hv m e d k).2) else ((hv m e d k).1, ((hv m e d k).1 + (hv m e d k).2) / 2)) = _
 rw [if_pos h']
theorem hv_n {m e d : Int} {k : Nat} (h : (sg m e (((hv m e d k).1 + (hv m e d k).2) / 2) == d) = false) : hv m e d (k + 1) = ((hv m e d k).1, ((hv m e d k).1 + (hv m e d k).2) / 2) := by
 have h' : ¬ sg m e (((hv m e d k).1 + (hv m e d k).2) / 2) = d := by simpa using h
 show (if sg m e (((hv m e d k).1 + (hv m e d k).2) / 2) = d then (((hv m e d k).1 + (hv m e d k).2) / 2, (hv m e d k).2) else ((hv m e d k).1, ((hv m e d k).1 + (hv m e d k).2) / 2)) = _
 rw [if_neg h']
theorem i64_m {m e d f : Int} (H : Hy m e d f) : I64 m ∧ I64 e := by
 have h1 := H.h1
 have h2 := H.h2
 have e1 := H.e1
 have e2 := H.e2
 unfold I64
 omega
structure Hz (m e d : Int) : Prop where
 x : IntKind.i64.wrap (m + (IntKind.i64.wrap (d * 1073741824))) = (hv m e d 0).1
 y : IntKind.i64.wrap (m - (IntKind.i64.wrap (d * 1073741824))) = (hv m e d 0).2
theorem hz {m e d f : Int} (H : Hy m e d f) : Hz m e d := by
 have h1 := H.h1
 have h2 := H.h2
 have hd : IntKind.i64.wrap (d * 1073741824) = d * 1073741824 := by rcases H.hs with rfl | rfl <;> rfl
 have hb : -1073741824 ≤ d * 1073741824 ∧ d * 1073741824 ≤ 1073741824 := by rcases H.hs with rfl | rfl <;> omega
 constructor
 · rw [hd]; exact Iv.wr (by omega) (by omega)
 · rw [hd]; exact Iv.wr (by omega) (by omega)
theorem hA_ok {m e d f a s : Int} {b : Bool} {k : Nat} (H : Hy m e d f) (hk : k ≤ 31) (hs : s = (k : Int) - 1) (F : (IntKind.i64.wrap (s + 1) == f) = false) (N : decide (k = 31) = false) (G : (sg m e (((hv m e d k).1 + (hv m e d k).2) / 2) == d) = true) : ∀ p ∈ hpA m e d f (hv m e d k).1 (hv m e d k).2 a s b (((hv m e d k).1 + (hv m e d k).2) / 2) (hv m e d k).2 (hv m e d k).1 (s + 1) (decide (k = 31)), p := by
 have w := hw H (k := k) (by omega)
 exact (ps_cons F (ps_cons (by rw [w.a, w.b, w.n]; exact N) (ps_cons ⟨⟨_, _, rfl, (i64_m H).1, (i64_m H).2⟩, by rw [w.c]; exact w.i⟩ (ps_cons (by rw [w.c]; exact G) (ps_cons rfl (ps_cons (by rw [w.c]) (ps_cons rfl (ps_cons rfl (ps_cons rfl (ps_cons rfl (ps_cons rfl (ps_cons rfl (ps_cons (by rw [Iv.wr (by omega) (by omega)]) (ps_cons (by rw [w.a, w.b, w.n]) (ps_cons rfl (ps_cons rfl (ps_cons rfl ps_nil)))))))))))))))))
theorem hB_ok {m e d f a s : Int} {b : Bool} {k : Nat} (H : Hy m e d f) (hk : k ≤ 31) (hs : s = (k : Int) - 1) (F : (IntKind.i64.wrap (s + 1) == f) = false) (N : decide (k = 31) = false) (G : (sg m e (((hv m e d k).1 + (hv m e d k).2) / 2) == d) = false) : ∀ p ∈ hpB m e d f (hv m e d k).1 (hv m e d k).2 a s b (hv m e d k).1 (((hv m e d k).1 + (hv m e d k).2) / 2) (hv m e d k).1 (s + 1) (decide (k = 31)), p := by
 have w := hw H (k := k) (by omega)
 exact (ps_cons F (ps_cons (by rw [w.a, w.b, w.n]; exact N) (ps_cons ⟨⟨_, _, rfl, (i64_m H).1, (i64_m H).2⟩, by rw [w.c]; exact w.i⟩ (ps_cons (by rw [w.c]; exact G) (ps_cons (by rw [w.c]) (ps_cons rfl (ps_cons rfl (ps_cons rfl (ps_cons rfl (ps_cons rfl (ps_cons rfl (ps_cons rfl (ps_cons (by rw [Iv.wr (by omega) (by omega)]) (ps_cons (by rw [w.a, w.b, w.n]) (ps_cons rfl (ps_cons rfl (ps_cons rfl ps_nil)))))))))))))))))
theorem hX_ok {m e d f a s : Int} {b : Bool} {k : Nat} (H : Hy m e d f) (hk : k ≤ 31) (hs : s = (k : Int) - 1) (F : (IntKind.i64.wrap (s + 1) == f) = true) : ∀ p ∈ hpX m e d f (hv m e d k).1 (hv m e d k).2 a s b  (hv m e d k).1 (s + 1) (decide (k = 31)), p := by
 have w := hw H (k := k) (by omega)
 exact (ps_cons F (ps_cons rfl (ps_cons rfl (ps_cons rfl (ps_cons rfl (ps_cons rfl (ps_cons rfl (ps_cons (by rw [Iv.wr (by omega) (by omega)]) (ps_cons (by rw [w.a, w.b, w.n]) (ps_cons rfl (ps_cons rfl (ps_cons rfl ps_nil))))))))))))
theorem hY_ok {m e d f a s : Int} {b : Bool} {k : Nat} (H : Hy m e d f) (hk : k ≤ 31) (hs : s = (k : Int) - 1) (F : (IntKind.i64.wrap (s + 1) == f) = false) (N : decide (k = 31) = true) : ∀ p ∈ hpY m e d f (hv m e d k).1 (hv m e d k).2 a s b  (hv m e d k).1 (s + 1) (decide (k = 31)), p := by
 have w := hw H (k := k) (by omega)
 exact (ps_cons F (ps_cons (by rw [w.a, w.b, w.n]; exact N) (ps_cons rfl (ps_cons rfl (ps_cons rfl (ps_cons rfl (ps_cons rfl (ps_cons rfl (ps_cons (by rw [Iv.wr (by omega) (by omega)]) (ps_cons (by rw [w.a, w.b, w.n]) (ps_cons rfl (ps_cons rfl (ps_cons rfl ps_nil)))))))))))))
theorem iA_ok {m e d f : Int} (H : Hy m e d f) (F : ((0 : Int) == f) = false) (N : decide ((0 : Nat) = 31) = false) (G : (sg m e (((hv m e d 0).1 + (hv m e d 0).2) / 2) == d) = true) : ∀ p ∈ ipA m e d f (((hv m e d 0).1 + (hv m e d 0).2) / 2) (hv m e d 0).2 (hv m e d 0).1 0 (decide ((0 : Nat) = 31)), p := by
 have w := hw H (k := 0) (by omega)
 have Z := hz H
 exact (ps_cons F (ps_cons (by rw [Z.x, Z.y, w.a, w.b, w.n]; exact N) (ps_cons ⟨⟨_, _, rfl, (i64_m H).1, (i64_m H).2⟩, by rw [Z.x, Z.y, w.c]; exact w.i⟩ (ps_cons (by rw [Z.x, Z.y, w.c]; exact G) (ps_cons (by rw [Z.y]) (ps_cons (by rw [Z.x, Z.y, w.c]) (ps_cons rfl (ps_cons rfl (ps_cons rfl (ps_cons rfl (ps_cons rfl (ps_cons (by rw [Z.x]) (ps_cons rfl (ps_cons (by rw [Z.x, Z.y, w.a, w.b, w.n]) (ps_cons rfl (ps_cons rfl (ps_cons rfl ps_nil)))))))))))))))))
theorem iB_ok {m e d f : Int} (H : Hy m e d f) (F : ((0 : Int) == f) = false) (N : decide ((0 : Nat) = 31) = false) (G : (sg m e (((hv m e d 0).1 + (hv m e d 0).2) / 2) == d) = false) : ∀ p ∈ ipB m e d f (hv m e d 0).1 (((hv m e d 0).1 + (hv m e d 0).2) / 2) (hv m e d 0).1 0 (decide ((0 : Nat) = 31)), p := by
 have w := hw H (k := 0) (by omega)
 have Z := hz H
 exact (ps_cons F (ps_cons (by rw [Z.x, Z.y, w.a, w.b, w.n]; exact N) (ps_cons ⟨⟨_, _, rfl, (i64_m H).1, (i64_m H).2⟩, by rw [Z.x, Z.y, w.c]; exact w.i⟩ (ps_cons (by rw [Z.x, Z.y, w.c]; exact G) (ps_cons (by rw [Z.x, Z.y, w.c]) (ps_cons (by rw [Z.x]) (ps_cons rfl (ps_cons rfl (ps_cons rfl (ps_cons rfl (ps_cons rfl (ps_cons (by rw [Z.x]) (ps_cons rfl (ps_cons (by rw [Z.x, Z.y, w.a, w.b, w.n]) (ps_cons rfl (ps_cons rfl (ps_cons rfl ps_nil)))))))))))))))))
theorem iX_ok {m e d f : Int} (H : Hy m e d f) (F : ((0 : Int) == f) = true) : ∀ p ∈ ipX m e d f  (hv m e d 0).1 0 (decide ((0 : Nat) = 31)), p := by
 have w := hw H (k := 0) (by omega)
 have Z := hz H
 exact (ps_cons F (ps_cons rfl (ps_cons rfl (ps_cons rfl (ps_cons rfl (ps_cons rfl (ps_cons (by rw [Z.x]) (ps_cons rfl (ps_cons (by rw [Z.x, Z.y, w.a, w.b, w.n]) (ps_cons rfl (ps_cons rfl (ps_cons rfl ps_nil))))))))))))
def hInv (f : Int) (k : Nat) : Prop := 1 ≤ k ∧ k ≤ 31 ∧ (k : Int) ≤ f
noncomputable def hG (m e d f : Int) (k : Nat) : St := hSt m e d f (hv m e d k).1 (hv m e d k).2 (hv m e d (k - 1)).1 ((k : Int) - 1) false
theorem hG_A {m e d f : Int} {k : Nat} {n : Int} (hn : n = k) (G : (sg m e (((hv m e d k).1 + (hv m e d k).2) / 2) == d) = true) (hk : k < 31) : hSt m e d f (((hv m e d k).1 + (hv m e d k).2) / 2) (hv m e d k).2 (hv m e d k).1 n (decide (k = 31)) = hG m e d f (k + 1) := by
 unfold hG
 rw [hv_s G, decide_eq_false (by omega), hn, Nat.add_sub_cancel, show ((k + 1 : Nat) : Int) - 1 = k by omega]
theorem hG_B {m e d f : Int} {k : Nat} {n : Int} (hn : n = k) (G : (sg m e (((hv m e d k).1 + (hv m e d k).2) / 2) == d) = false) (hk : k < 31) : hSt m e d f (hv m e d k).1 (((hv m e d k).1 + (hv m e d k).2) / 2) (hv m e d k).1 n (decide (k = 31)) = hG m e d f (k + 1) := by
 unfold hG
 rw [hv_n G, decide_eq_false (by omega), hn, Nat.add_sub_cancel, show ((k + 1 : Nat) : Int) - 1 = k by omega]
noncomputable def finX (m e d f : Int) : St := hFinX m e d f (hv m e d f.toNat).1 f (decide (f.toNat = 31))
noncomputable def finY (m e d f : Int) : St := hFin m e d f (hv m e d 31).1 31 true
theorem eqF {s f : Int} (h1 : -1 ≤ s) (h2 : s ≤ 40) (F : (IntKind.i64.wrap (s + 1) == f) = true) : s + 1 = f := by
 simp only [beq_iff_eq] at F
 rw [Iv.wr (by omega) (by omega)] at F
 exact F
theorem neF {s f : Int} (h1 : -1 ≤ s) (h2 : s ≤ 40) (F : (IntKind.i64.wrap (s + 1) == f) = false) : ¬ s + 1 = f := by
 have hf : ¬ (IntKind.i64.wrap (s + 1) = f) := by simpa using F
 rw [Iv.wr (by omega) (by omega)] at hf
 exact hf
theorem h_stepX {m e d f : Int} (H : Hy m e d f) (hf : f ≤ 31) (k : Nat) (hk : hInv f k) : StepTo P KH 3 43 hRest (hG m e d f k) fun o S1 => (o = .goto 0 ∧ ∃ g', hInv f g' ∧ 31 - g' < 31 - k ∧ Keeps S1 (hG m e d f g')) ∨ (o = .ret ∧ Keeps S1 (finX m e d f)) := by
 obtain ⟨k1, k2, k3⟩ := hk
 unfold hG
 cases F : (IntKind.i64.wrap (((k : Int) - 1) + 1) == f) with
 | true =>
  have hF := eqF (by omega) (by omega) F
  obtain rfl : k = f.toNat := by omega
  refine step_run (fun j => hrX m e d f _ _ _ _ _ _ _ _ j) (hX_ok H (by omega) rfl F) rfl fun S1 hk => .inr ⟨rfl, ?_⟩
  unfold finX
  rw [hF] at hk
  exact hk
 | false =>
  cases N : decide (k = 31) with
  | true =>
   exfalso
   have := of_decide_eq_true N
   have := neF (by omega) (by omega) F
   omega
  | false =>
   have hlt : k < 31 := by have := of_decide_eq_false N; omega
   have hne := neF (by omega) (by omega) F
   cases G : (sg m e (((hv m e d k).1 + (hv m e d k).2) / 2) == d) with
   | true => exact step_run (fun j => hrA m e d f _ _ _ _ _ _ _ _ _ _ j) (hA_ok H (by omega) rfl F N G) rfl fun S1 hk => .inl ⟨rfl, k + 1, ⟨by omega, by omega, by omega⟩, by omega, by rw [hG_A (n := (k : Int) - 1 + 1) (by omega) G hlt] at hk; exact hk⟩
   | false => exact step_run (fun j => hrB m e d f _ _ _ _ _ _ _ _ _ _ j) (hB_ok H (by omega) rfl F N G) rfl fun S1 hk => .inl ⟨rfl, k + 1, ⟨by omega, by omega, by omega⟩, by omega, by rw [hG_B (n := (k : Int) - 1 + 1) (by omega) G hlt] at hk; exact hk⟩
theorem h_step0X {m e d f : Int} (H : Hy m e d f) (hf : f ≤ 31) : StepTo P KH 3 43 hBody (hSt0 m e d f) fun o S1 => (o = .goto 0 ∧ ∃ g', hInv f g' ∧ Keeps S1 (hG m e d f g')) ∨ (o = .ret ∧ Keeps S1 (finX m e d f)) := by
 have f0 := H.f0
 cases F : ((0 : Int) == f) with
 | true =>
  have hF : 0 = f := by simpa using F
  subst hF
  exact step_run (fun j => irX m e d 0 _ _ _ j) (iX_ok H F) rfl fun S1 hk => .inr ⟨rfl, hk⟩
 | false =>
  have hne : ¬ 0 = f := by simpa using F
  cases G : (sg m e (((hv m e d 0).1 + (hv m e d 0).2) / 2) == d) with
  | true => exact step_run (fun j => irA m e d f _ _ _ _ _ j) (iA_ok H F rfl G) rfl fun S1 hk => .inl ⟨rfl, 1, ⟨by omega, by omega, by omega⟩, by rw [hG_A (k := 0) (n := 0) rfl G (by omega)] at hk; exact hk⟩
  | false => exact step_run (fun j => irB m e d f _ _ _ _ _ j) (iB_ok H F rfl G) rfl fun S1 hk => .inl ⟨rfl, 1, ⟨by omega, by omega, by omega⟩, by rw [hG_B (k := 0) (n := 0) rfl G (by omega)] at hk; exact hk⟩
noncomputable def hLoopX (m e d f : Int) (H : Hy m e d f) (hf : f ≤ 31) : CodeC P :=
 scopeC mo KH (by rfl) 3 43 hBody hRest 0 (by kernel_rfl) [14, 10, 9, 4, 3, 2, 1, 0] (hSt0 m e d f) (hG m e d f) (hInv f) (fun k => 31 - k) .ret (finX m e d f) (fun _ => by simp) rfl (fun _ => rfl) rfl (by kernel_rfl) (fun _ => by kernel_rfl) (by kernel_rfl) [] rfl (fun _ => rfl) rfl
  (h_step0X H hf) (h_stepX H hf)
noncomputable def KLX (m e d f : Int) (H : Hy m e d f) (hf : f ≤ 31) : Env P := ⟨⟨[], []⟩, [hLoopX m e d f H hf], 10, []⟩
theorem halve_runX (m e d f : Int) (H : Hy m e d f) (hf : f ≤ 31) : runF P (KLX m e d f H hf) 2 52 [Ob m e, .int .i64 d, .int .i64 f] (.lit :: (.n 0 :: [])) =
 some (.tuple #[.int .i64 ((hv m e d f.toNat).1), .int .i64 f, .bool (decide (f.toNat = 31))], [Code.scope hBody = innerOf P 154 0, (.yld 14 : SV) = .yld 14, (.ptr 9 0 : SV) = .ptr 9 0, (.ptr 10 0 : SV) = .ptr 10 0, (.agg #[.int .i64 m, .int .i64 e] : Value) = .agg #[.int .i64 m, .int .i64 e], (.int .i64 f : Value) = .int .i64 f, (.int .i64 0 : Value) = .int .i64 0, (.int .i64 (-1) : Value) = .int .i64 (-1), (.bool false : Value) = .bool false, (.agg #[.int .i64 m, .int .i64 e] : Value) = .agg #[.int .i64 m, .int .i64 e], (.int .i64 d : Value) = .int .i64 d, hRec m e d f = hRec m e d f]) := by kernel_rfl
theorem h_stepY {m e d f : Int} (H : Hy m e d f) (hf : 32 ≤ f) (k : Nat) (hk : hInv f k) : StepTo P KH 3 43 hRest (hG m e d f k) fun o S1 => (o = .goto 0 ∧ ∃ g', hInv f g' ∧ 31 - g' < 31 - k ∧ Keeps S1 (hG m e d f g')) ∨ (o = .ret ∧ Keeps S1 (finY m e d f)) := by
 obtain ⟨k1, k2, k3⟩ := hk
 unfold hG
 cases F : (IntKind.i64.wrap (((k : Int) - 1) + 1) == f) with
 | true =>
  exfalso
  have := eqF (by omega) (by omega) F
  omega
 | false =>
  cases N : decide (k = 31) with
  | true =>
   have h31 := of_decide_eq_true N
   subst h31
   exact step_run (fun j => hrY m e d f _ _ _ _ _ _ _ _ j) (hY_ok H (by omega) rfl F N) rfl fun S1 hk => .inr ⟨rfl, hk⟩
  | false =>
   have hlt : k < 31 := by have := of_decide_eq_false N; omega
   have hne := neF (by omega) (by omega) F
   cases G : (sg m e (((hv m e d k).1 + (hv m e d k).2) / 2) == d) with
   | true => exact step_run (fun j => hrA m e d f _ _ _ _ _ _ _ _ _ _ j) (hA_ok H (by omega) rfl F N G) rfl fun S1 hk => .inl ⟨rfl, k + 1, ⟨by omega, by omega, by omega⟩, by omega, by rw [hG_A (n := (k : Int) - 1 + 1) (by omega) G hlt] at hk; exact hk⟩
   | false => exact step_run (fun j => hrB m e d f _ _ _ _ _ _ _ _ _ _ j) (hB_ok H (by omega) rfl F N G) rfl fun S1 hk => .inl ⟨rfl, k + 1, ⟨by omega, by omega, by omega⟩, by omega, by rw [hG_B (n := (k : Int) - 1 + 1) (by omega) G hlt] at hk; exact hk⟩
theorem h_step0Y {m e d f : Int} (H : Hy m e d f) (hf : 32 ≤ f) : StepTo P KH 3 43 hBody (hSt0 m e d f) fun o S1 => (o = .goto 0 ∧ ∃ g', hInv f g' ∧ Keeps S1 (hG m e d f g')) ∨ (o = .ret ∧ Keeps S1 (finY m e d f)) := by
 have f0 := H.f0
 cases F : ((0 : Int) == f) with
 | true =>
  exfalso
  have : 0 = f := by simpa using F
  omega
 | false =>
  have hne : ¬ 0 = f := by simpa using F
  cases G : (sg m e (((hv m e d 0).1 + (hv m e d 0).2) / 2) == d) with
  | true => exact step_run (fun j => irA m e d f _ _ _ _ _ j) (iA_ok H F rfl G) rfl fun S1 hk => .inl ⟨rfl, 1, ⟨by omega, by omega, by omega⟩, by rw [hG_A (k := 0) (n := 0) rfl G (by omega)] at hk; exact hk⟩
  | false => exact step_run (fun j => irB m e d f _ _ _ _ _ j) (iB_ok H F rfl G) rfl fun S1 hk => .inl ⟨rfl, 1, ⟨by omega, by omega, by omega⟩, by rw [hG_B (k := 0) (n := 0) rfl G (by omega)] at hk; exact hk⟩
noncomputable def hLoopY (m e d f : Int) (H : Hy m e d f) (hf : 32 ≤ f) : CodeC P :=
 scopeC mo KH (by rfl) 3 43 hBody hRest 0 (by kernel_rfl) [14, 10, 9, 4, 3, 2, 1, 0] (hSt0 m e d f) (hG m e d f) (hInv f) (fun k => 31 - k) .ret (finY m e d f) (fun _ => by simp) rfl (fun _ => rfl) rfl (by kernel_rfl) (fun _ => by kernel_rfl) (by kernel_rfl) [] rfl (fun _ => rfl) rfl
  (h_step0Y H hf) (h_stepY H hf)
noncomputable def KLY (m e d f : Int) (H : Hy m e d f) (hf : 32 ≤ f) : Env P := ⟨⟨[], []⟩, [hLoopY m e d f H hf], 10, []⟩
theorem halve_runY (m e d f : Int) (H : Hy m e d f) (hf : 32 ≤ f) : runF P (KLY m e d f H hf) 2 52 [Ob m e, .int .i64 d, .int .i64 f] (.lit :: (.n 0 :: [])) =
 some (.tuple #[.int .i64 ((hv m e d 31).1), .int .i64 31, .bool true], [Code.scope hBody = innerOf P 154 0, (.yld 14 : SV) = .yld 14, (.ptr 9 0 : SV) = .ptr 9 0, (.ptr 10 0 : SV) = .ptr 10 0, (.agg #[.int .i64 m, .int .i64 e] : Value) = .agg #[.int .i64 m, .int .i64 e], (.int .i64 f : Value) = .int .i64 f, (.int .i64 0 : Value) = .int .i64 0, (.int .i64 (-1) : Value) = .int .i64 (-1), (.bool false : Value) = .bool false, (.agg #[.int .i64 m, .int .i64 e] : Value) = .agg #[.int .i64 m, .int .i64 e], (.int .i64 d : Value) = .int .i64 d, hRec m e d f = hRec m e d f]) := by kernel_rfl
def haA (m e d f : Int) : Int := (hv m e d (mn f 31).toNat).1
def haN (f : Int) : Int := mn f 31
def haD (f : Int) : Bool := decide (f ≥ 31)
def haP : List Value → Prop
 | [o, .int .i64 d, .int .i64 f] => ∃ m e, o = Ob m e ∧ Hy m e d f
 | _ => False
def haV : List Value → Value
 | [.agg cs, .int _ d, .int _ f] => match cs.toList with
  | [.int _ m, .int _ e] => .tuple #[.int .i64 (haA m e d f), .int .i64 (haN f), .bool (haD f)]
  | _ => undef
 | _ => undef
theorem ha_gives (args : List Value) (h : haP args) : Gives P 52 args.toArray (haV args) := by
 unfold haP at h
 split at h
 · rename_i d f
   obtain ⟨m, e, rfl, H⟩ := h
   show Gives P _ #[Ob m e, .int .i64 d, .int .i64 f] (.tuple #[.int .i64 (haA m e d f), .int .i64 (haN f), .bool (haD f)])
   have f0 := H.f0
   unfold haA haN haD
   by_cases hf : f ≤ 31
   · have e1 : mn f 31 = f := by unfold mn; split <;> omega
     have e2 : decide (f.toNat = 31) = decide (f ≥ 31) := by rw [decide_eq_decide]; omega
     rw [e1, ← e2]
     exact gives_of_run mo (halve_runX m e d f H hf) (ps_cons (by kernel_rfl) (ps_cons rfl (ps_cons rfl (ps_cons rfl (ps_cons rfl (ps_cons rfl (ps_cons rfl (ps_cons rfl (ps_cons rfl (ps_cons rfl (ps_cons rfl (ps_cons rfl ps_nil)))))))))))) rfl
   · have e1 : mn f 31 = 31 := by unfold mn; split <;> omega
     rw [e1, decide_eq_true (show f ≥ 31 by omega)]
     exact gives_of_run mo (halve_runY m e d f H (by omega)) (ps_cons (by kernel_rfl) (ps_cons rfl (ps_cons rfl (ps_cons rfl (ps_cons rfl (ps_cons rfl (ps_cons rfl (ps_cons rfl (ps_cons rfl (ps_cons rfl (ps_cons rfl (ps_cons rfl ps_nil)))))))))))) rfl
 · exact h.elim
noncomputable def cHalve : Ctr P := ⟨52, haP, haV, ha_gives⟩
end Go.Ke
