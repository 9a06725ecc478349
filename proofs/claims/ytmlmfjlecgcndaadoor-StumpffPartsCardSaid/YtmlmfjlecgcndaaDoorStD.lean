/-
  Contracts of package stumpff. Printed by stD.py.
-/
import Derived.Test.YtmlmfjlecgcndaaDoorSta
import Derived.Test.YtmlmfjlecgcndaaDoorWvD
set_option maxRecDepth 100000
namespace Go.St
open Go Go.RowKit Go.Sx Go.Nm Go.Wd Go.Qt Go.Iv Go.An Go.Wv Go.Proofs

def widP : List Value → Prop
  | [x, .int .i64 r] => (∃ a, x = I a) ∧ -1152921504606846976 ≤ r ∧ r ≤ 1152921504606846976
  | _ => False
def widV : List Value → Value
  | [x, .int _ r] => I (wid (rd x) r)
  | _ => undef
noncomputable def SI : Env P := ⟨⟨ivalC, ivalD⟩, [], 10, []⟩
theorem wi0_run (a : Iv) (r : Int) : runF P SI 1 29 [I a, .int .i64 r] [] =
  some (I (addI a (makeI (IntKind.i64.wrap (0 - r)) r)),
    [nP2 [.int .i64 (IntKind.i64.wrap (0 - r)), .int .i64 r],
     iP2 [I a, I (makeI (IntKind.i64.wrap (0 - r)) r)]]) := by kernel_rfl
theorem wi0_leaf (a : Iv) (r : Int) (h1 : -1152921504606846976 ≤ r) (h2 : r ≤ 1152921504606846976)  : Gives P 29 #[I a, .int .i64 r] (I (wid a r)) := by
  have R := wi0_run a r
  refine gives_of_run mo R (ps_cons (by unfold nP2 I64; rw [wr (by omega) (by omega)]; omega) (ps_cons ⟨⟨_, rfl⟩, _, rfl⟩ ps_nil)) ?_
  show I (addI a (makeI (IntKind.i64.wrap (0 - r)) r)) = _
  rw [wr (by omega) (by omega), Int.zero_sub]
  rfl
theorem wi_gives (args : List Value) (h : widP args) : Gives P 29 args.toArray ((widV) args) := by
  unfold widP at h
  split at h
  · rename_i r
    obtain ⟨⟨a, rfl⟩, h1, h2⟩ := h
    show Gives P _ #[I a, .int .i64 r] (I (wid a r))
    exact wi0_leaf a r h1 h2 
  · exact h.elim
noncomputable def cWider : Ctr P := ⟨29, widP, widV, wi_gives⟩
/-! ### point -/
def pkP : List Value → Prop
  | [.int .i64 k, .int .i64 p] => 0 ≤ k ∧ k ≤ 3 ∧ -17179869184 ≤ p ∧ p ≤ 17179869184
  | _ => False
def pkV : List Value → Value
  | [.int _ k, .int _ p] => I (pk k.toNat p)
  | _ => undef
noncomputable def SK : Env P := ⟨⟨[cWider] ++ ivalC, ivalD⟩, [], 20, []⟩
def m4W (t : Iv) : Int := mx (mx (mx t.hi (IntKind.i64.wrap (0 - t.hi))) t.lo) (IntKind.i64.wrap (0 - t.lo))
theorem m4_ok {k : Nat} (hk : k ≤ 3) {p : Int} (h1 : -17179869184 ≤ p) (h2 : p ≤ 17179869184) : IntKind.i64.wrap (2 * m4W (tk k p 14)) = 2 * mx4 (tk k p 14) ∧ -1152921504606846976 ≤ 2 * mx4 (tk k p 14) ∧ 2 * mx4 (tk k p 14) ≤ 1152921504606846976 := by
  obtain ⟨t, _⟩ := tk_facts hk h1 h2 14 (by omega)
  have tl := t.l
  have tu := t.h
  have rt := fine_iff.1 t.f
  have e13 : tb 14 = 68719476736 := by decide
  rw [e13] at tl tu
  have e : m4W (tk k p 14) = mx4 (tk k p 14) := by
    unfold m4W mx4
    rw [Int.zero_sub, Int.zero_sub, wr (by omega) (by omega), wr (by omega) (by omega)]
  have s1 : mx4 (tk k p 14) ≤ 68719476736 := by
    unfold mx4
    rw [mx_le, mx_le, mx_le]; omega
  have s0 : -(tk k p 14).lo ≤ mx4 (tk k p 14) := (mx_le.1 (Int.le_refl _)).2
  have s2 : (tk k p 14).lo ≤ mx4 (tk k p 14) := (mx_le.1 (mx_le.1 (Int.le_refl _)).1).2
  rw [e]
  exact ⟨wr (by omega) (by omega), by omega, by omega⟩
theorem pk0_run (p : Int) : runF P SK 3 30 [.int .i64 0, .int .i64 p] [] =
  some (I (wid (sk 0 p 13) (IntKind.i64.wrap (2 * (m4W (tk 0 p 14))))),
    [nP1 [.int .i64 1],
     iP2 [I (⟨0, 0, false⟩), I (ofI 1)],
     nP1 [.int .i64 p],
     iP2 [I (ofI 1), I (pointI p)],
     partP [I (mulI (tk 0 p 0) (pointI p)), .int .i64 (-1), .int .i64 2],
     iP2 [I (ofI 1), I (tk 0 p 1)],
     nP1 [.int .i64 p],
     iP2 [I (tk 0 p 1), I (pointI p)],
     partP [I (mulI (tk 0 p 1) (pointI p)), .int .i64 (-1), .int .i64 12],
     iP2 [I (sk 0 p 1), I (tk 0 p 2)],
     nP1 [.int .i64 p],
     iP2 [I (tk 0 p 2), I (pointI p)],
     partP [I (mulI (tk 0 p 2) (pointI p)), .int .i64 (-1), .int .i64 30],
     iP2 [I (sk 0 p 2), I (tk 0 p 3)],
     nP1 [.int .i64 p],
     iP2 [I (tk 0 p 3), I (pointI p)],
     partP [I (mulI (tk 0 p 3) (pointI p)), .int .i64 (-1), .int .i64 56],
     iP2 [I (sk 0 p 3), I (tk 0 p 4)],
     nP1 [.int .i64 p],
     iP2 [I (tk 0 p 4), I (pointI p)],
     partP [I (mulI (tk 0 p 4) (pointI p)), .int .i64 (-1), .int .i64 90],
     iP2 [I (sk 0 p 4), I (tk 0 p 5)],
     nP1 [.int .i64 p],
     iP2 [I (tk 0 p 5), I (pointI p)],
     partP [I (mulI (tk 0 p 5) (pointI p)), .int .i64 (-1), .int .i64 132],
     iP2 [I (sk 0 p 5), I (tk 0 p 6)],
     nP1 [.int .i64 p],
     iP2 [I (tk 0 p 6), I (pointI p)],
     partP [I (mulI (tk 0 p 6) (pointI p)), .int .i64 (-1), .int .i64 182],
     iP2 [I (sk 0 p 6), I (tk 0 p 7)],
     nP1 [.int .i64 p],
     iP2 [I (tk 0 p 7), I (pointI p)],
     partP [I (mulI (tk 0 p 7) (pointI p)), .int .i64 (-1), .int .i64 240],
     iP2 [I (sk 0 p 7), I (tk 0 p 8)],
     nP1 [.int .i64 p],
     iP2 [I (tk 0 p 8), I (pointI p)],
     partP [I (mulI (tk 0 p 8) (pointI p)), .int .i64 (-1), .int .i64 306],
     iP2 [I (sk 0 p 8), I (tk 0 p 9)],
     nP1 [.int .i64 p],
     iP2 [I (tk 0 p 9), I (pointI p)],
     partP [I (mulI (tk 0 p 9) (pointI p)), .int .i64 (-1), .int .i64 380],
     iP2 [I (sk 0 p 9), I (tk 0 p 10)],
     nP1 [.int .i64 p],
     iP2 [I (tk 0 p 10), I (pointI p)],
     partP [I (mulI (tk 0 p 10) (pointI p)), .int .i64 (-1), .int .i64 462],
     iP2 [I (sk 0 p 10), I (tk 0 p 11)],
     nP1 [.int .i64 p],
     iP2 [I (tk 0 p 11), I (pointI p)],
     partP [I (mulI (tk 0 p 11) (pointI p)), .int .i64 (-1), .int .i64 552],
     iP2 [I (sk 0 p 11), I (tk 0 p 12)],
     nP1 [.int .i64 p],
     iP2 [I (tk 0 p 12), I (pointI p)],
     partP [I (mulI (tk 0 p 12) (pointI p)), .int .i64 (-1), .int .i64 650],
     iP2 [I (sk 0 p 12), I (tk 0 p 13)],
     nP1 [.int .i64 p],
     iP2 [I (tk 0 p 13), I (pointI p)],
     partP [I (mulI (tk 0 p 13) (pointI p)), .int .i64 (-1), .int .i64 756],
     widP [I (sk 0 p 13), .int .i64 (IntKind.i64.wrap (2 * (m4W (tk 0 p 14))))]]) := by kernel_rfl
theorem pk0_leaf (p : Int) (h1 : -17179869184 ≤ p) (h2 : p ≤ 17179869184) : Gives P 30 #[.int .i64 0, .int .i64 p] (I (pk 0 p)) := by
  have hp : I64 p := by unfold I64; omega
  have M := m4_ok (k := 0) (by omega) h1 h2
  refine gives_of_run mo (pk0_run p) (ps_cons (by unfold nP1 I64; omega) (ps_cons ⟨⟨_, rfl⟩, _, rfl⟩ (ps_cons hp (ps_cons ⟨⟨_, rfl⟩, _, rfl⟩ (ps_cons ⟨⟨_, rfl⟩, by unfold I64; omega, by unfold I64; omega⟩ (ps_cons ⟨⟨_, rfl⟩, _, rfl⟩ (ps_cons hp (ps_cons ⟨⟨_, rfl⟩, _, rfl⟩ (ps_cons ⟨⟨_, rfl⟩, by unfold I64; omega, by unfold I64; omega⟩ (ps_cons ⟨⟨_, rfl⟩, _, rfl⟩ (ps_cons hp (ps_cons ⟨⟨_, rfl⟩, _, rfl⟩ (ps_cons ⟨⟨_, rfl⟩, by unfold I64; omega, by unfold I64; omega⟩ (ps_cons ⟨⟨_, rfl⟩, _, rfl⟩ (ps_cons hp (ps_cons ⟨⟨_, rfl⟩, _, rfl⟩ (ps_cons ⟨⟨_, rfl⟩, by unfold I64; omega, by unfold I64; omega⟩ (ps_cons ⟨⟨_, rfl⟩, _, rfl⟩ (ps_cons hp (ps_cons ⟨⟨_, rfl⟩, _, rfl⟩ (ps_cons ⟨⟨_, rfl⟩, by unfold I64; omega, by unfold I64; omega⟩ (ps_cons ⟨⟨_, rfl⟩, _, rfl⟩ (ps_cons hp (ps_cons ⟨⟨_, rfl⟩, _, rfl⟩ (ps_cons ⟨⟨_, rfl⟩, by unfold I64; omega, by unfold I64; omega⟩ (ps_cons ⟨⟨_, rfl⟩, _, rfl⟩ (ps_cons hp (ps_cons ⟨⟨_, rfl⟩, _, rfl⟩ (ps_cons ⟨⟨_, rfl⟩, by unfold I64; omega, by unfold I64; omega⟩ (ps_cons ⟨⟨_, rfl⟩, _, rfl⟩ (ps_cons hp (ps_cons ⟨⟨_, rfl⟩, _, rfl⟩ (ps_cons ⟨⟨_, rfl⟩, by unfold I64; omega, by unfold I64; omega⟩ (ps_cons ⟨⟨_, rfl⟩, _, rfl⟩ (ps_cons hp (ps_cons ⟨⟨_, rfl⟩, _, rfl⟩ (ps_cons ⟨⟨_, rfl⟩, by unfold I64; omega, by unfold I64; omega⟩ (ps_cons ⟨⟨_, rfl⟩, _, rfl⟩ (ps_cons hp (ps_cons ⟨⟨_, rfl⟩, _, rfl⟩ (ps_cons ⟨⟨_, rfl⟩, by unfold I64; omega, by unfold I64; omega⟩ (ps_cons ⟨⟨_, rfl⟩, _, rfl⟩ (ps_cons hp (ps_cons ⟨⟨_, rfl⟩, _, rfl⟩ (ps_cons ⟨⟨_, rfl⟩, by unfold I64; omega, by unfold I64; omega⟩ (ps_cons ⟨⟨_, rfl⟩, _, rfl⟩ (ps_cons hp (ps_cons ⟨⟨_, rfl⟩, _, rfl⟩ (ps_cons ⟨⟨_, rfl⟩, by unfold I64; omega, by unfold I64; omega⟩ (ps_cons ⟨⟨_, rfl⟩, _, rfl⟩ (ps_cons hp (ps_cons ⟨⟨_, rfl⟩, _, rfl⟩ (ps_cons ⟨⟨_, rfl⟩, by unfold I64; omega, by unfold I64; omega⟩ (ps_cons ⟨⟨_, rfl⟩, _, rfl⟩ (ps_cons hp (ps_cons ⟨⟨_, rfl⟩, _, rfl⟩ (ps_cons ⟨⟨_, rfl⟩, by unfold I64; omega, by unfold I64; omega⟩ (ps_cons ⟨⟨_, rfl⟩, by rw [M.1]; exact M.2.1, by rw [M.1]; exact M.2.2⟩ ps_nil)))))))))))))))))))))))))))))))))))))))))))))))))))))))))) ?_
  rw [M.1]
  rfl
theorem pk1_run (p : Int) : runF P SK 3 30 [.int .i64 1, .int .i64 p] [] =
  some (I (wid (sk 1 p 13) (IntKind.i64.wrap (2 * (m4W (tk 1 p 14))))),
    [nP1 [.int .i64 1],
     iP2 [I (⟨0, 0, false⟩), I (ofI 1)],
     nP1 [.int .i64 p],
     iP2 [I (ofI 1), I (pointI p)],
     partP [I (mulI (tk 1 p 0) (pointI p)), .int .i64 (-1), .int .i64 6],
     iP2 [I (ofI 1), I (tk 1 p 1)],
     nP1 [.int .i64 p],
     iP2 [I (tk 1 p 1), I (pointI p)],
     partP [I (mulI (tk 1 p 1) (pointI p)), .int .i64 (-1), .int .i64 20],
     iP2 [I (sk 1 p 1), I (tk 1 p 2)],
     nP1 [.int .i64 p],
     iP2 [I (tk 1 p 2), I (pointI p)],
     partP [I (mulI (tk 1 p 2) (pointI p)), .int .i64 (-1), .int .i64 42],
     iP2 [I (sk 1 p 2), I (tk 1 p 3)],
     nP1 [.int .i64 p],
     iP2 [I (tk 1 p 3), I (pointI p)],
     partP [I (mulI (tk 1 p 3) (pointI p)), .int .i64 (-1), .int .i64 72],
     iP2 [I (sk 1 p 3), I (tk 1 p 4)],
     nP1 [.int .i64 p],
     iP2 [I (tk 1 p 4), I (pointI p)],
     partP [I (mulI (tk 1 p 4) (pointI p)), .int .i64 (-1), .int .i64 110],
     iP2 [I (sk 1 p 4), I (tk 1 p 5)],
     nP1 [.int .i64 p],
     iP2 [I (tk 1 p 5), I (pointI p)],
     partP [I (mulI (tk 1 p 5) (pointI p)), .int .i64 (-1), .int .i64 156],
     iP2 [I (sk 1 p 5), I (tk 1 p 6)],
     nP1 [.int .i64 p],
     iP2 [I (tk 1 p 6), I (pointI p)],
     partP [I (mulI (tk 1 p 6) (pointI p)), .int .i64 (-1), .int .i64 210],
     iP2 [I (sk 1 p 6), I (tk 1 p 7)],
     nP1 [.int .i64 p],
     iP2 [I (tk 1 p 7), I (pointI p)],
     partP [I (mulI (tk 1 p 7) (pointI p)), .int .i64 (-1), .int .i64 272],
     iP2 [I (sk 1 p 7), I (tk 1 p 8)],
     nP1 [.int .i64 p],
     iP2 [I (tk 1 p 8), I (pointI p)],
     partP [I (mulI (tk 1 p 8) (pointI p)), .int .i64 (-1), .int .i64 342],
     iP2 [I (sk 1 p 8), I (tk 1 p 9)],
     nP1 [.int .i64 p],
     iP2 [I (tk 1 p 9), I (pointI p)],
     partP [I (mulI (tk 1 p 9) (pointI p)), .int .i64 (-1), .int .i64 420],
     iP2 [I (sk 1 p 9), I (tk 1 p 10)],
     nP1 [.int .i64 p],
     iP2 [I (tk 1 p 10), I (pointI p)],
     partP [I (mulI (tk 1 p 10) (pointI p)), .int .i64 (-1), .int .i64 506],
     iP2 [I (sk 1 p 10), I (tk 1 p 11)],
     nP1 [.int .i64 p],
     iP2 [I (tk 1 p 11), I (pointI p)],
     partP [I (mulI (tk 1 p 11) (pointI p)), .int .i64 (-1), .int .i64 600],
     iP2 [I (sk 1 p 11), I (tk 1 p 12)],
     nP1 [.int .i64 p],
     iP2 [I (tk 1 p 12), I (pointI p)],
     partP [I (mulI (tk 1 p 12) (pointI p)), .int .i64 (-1), .int .i64 702],
     iP2 [I (sk 1 p 12), I (tk 1 p 13)],
     nP1 [.int .i64 p],
     iP2 [I (tk 1 p 13), I (pointI p)],
     partP [I (mulI (tk 1 p 13) (pointI p)), .int .i64 (-1), .int .i64 812],
     widP [I (sk 1 p 13), .int .i64 (IntKind.i64.wrap (2 * (m4W (tk 1 p 14))))]]) := by kernel_rfl
theorem pk1_leaf (p : Int) (h1 : -17179869184 ≤ p) (h2 : p ≤ 17179869184) : Gives P 30 #[.int .i64 1, .int .i64 p] (I (pk 1 p)) := by
  have hp : I64 p := by unfold I64; omega
  have M := m4_ok (k := 1) (by omega) h1 h2
  refine gives_of_run mo (pk1_run p) (ps_cons (by unfold nP1 I64; omega) (ps_cons ⟨⟨_, rfl⟩, _, rfl⟩ (ps_cons hp (ps_cons ⟨⟨_, rfl⟩, _, rfl⟩ (ps_cons ⟨⟨_, rfl⟩, by unfold I64; omega, by unfold I64; omega⟩ (ps_cons ⟨⟨_, rfl⟩, _, rfl⟩ (ps_cons hp (ps_cons ⟨⟨_, rfl⟩, _, rfl⟩ (ps_cons ⟨⟨_, rfl⟩, by unfold I64; omega, by unfold I64; omega⟩ (ps_cons ⟨⟨_, rfl⟩, _, rfl⟩ (ps_cons hp (ps_cons ⟨⟨_, rfl⟩, _, rfl⟩ (ps_cons ⟨⟨_, rfl⟩, by unfold I64; omega, by unfold I64; omega⟩ (ps_cons ⟨⟨_, rfl⟩, _, rfl⟩ (ps_cons hp (ps_cons ⟨⟨_, rfl⟩, _, rfl⟩ (ps_cons ⟨⟨_, rfl⟩, by unfold I64; omega, by unfold I64; omega⟩ (ps_cons ⟨⟨_, rfl⟩, _, rfl⟩ (ps_cons hp (ps_cons ⟨⟨_, rfl⟩, _, rfl⟩ (ps_cons ⟨⟨_, rfl⟩, by unfold I64; omega, by unfold I64; omega⟩ (ps_cons ⟨⟨_, rfl⟩, _, rfl⟩ (ps_cons hp (ps_cons ⟨⟨_, rfl⟩, _, rfl⟩ (ps_cons ⟨⟨_, rfl⟩, by unfold I64; omega, by unfold I64; omega⟩ (ps_cons ⟨⟨_, rfl⟩, _, rfl⟩ (ps_cons hp (ps_cons ⟨⟨_, rfl⟩, _, rfl⟩ (ps_cons ⟨⟨_, rfl⟩, by unfold I64; omega, by unfold I64; omega⟩ (ps_cons ⟨⟨_, rfl⟩, _, rfl⟩ (ps_cons hp (ps_cons ⟨⟨_, rfl⟩, _, rfl⟩ (ps_cons ⟨⟨_, rfl⟩, by unfold I64; omega, by unfold I64; omega⟩ (ps_cons ⟨⟨_, rfl⟩, _, rfl⟩ (ps_cons hp (ps_cons ⟨⟨_, rfl⟩, _, rfl⟩ (ps_cons ⟨⟨_, rfl⟩, by unfold I64; omega, by unfold I64; omega⟩ (ps_cons ⟨⟨_, rfl⟩, _, rfl⟩ (ps_cons hp (ps_cons ⟨⟨_, rfl⟩, _, rfl⟩ (ps_cons ⟨⟨_, rfl⟩, by unfold I64; omega, by unfold I64; omega⟩ (ps_cons ⟨⟨_, rfl⟩, _, rfl⟩ (ps_cons hp (ps_cons ⟨⟨_, rfl⟩, _, rfl⟩ (ps_cons ⟨⟨_, rfl⟩, by unfold I64; omega, by unfold I64; omega⟩ (ps_cons ⟨⟨_, rfl⟩, _, rfl⟩ (ps_cons hp (ps_cons ⟨⟨_, rfl⟩, _, rfl⟩ (ps_cons ⟨⟨_, rfl⟩, by unfold I64; omega, by unfold I64; omega⟩ (ps_cons ⟨⟨_, rfl⟩, _, rfl⟩ (ps_cons hp (ps_cons ⟨⟨_, rfl⟩, _, rfl⟩ (ps_cons ⟨⟨_, rfl⟩, by unfold I64; omega, by unfold I64; omega⟩ (ps_cons ⟨⟨_, rfl⟩, _, rfl⟩ (ps_cons hp (ps_cons ⟨⟨_, rfl⟩, _, rfl⟩ (ps_cons ⟨⟨_, rfl⟩, by unfold I64; omega, by unfold I64; omega⟩ (ps_cons ⟨⟨_, rfl⟩, by rw [M.1]; exact M.2.1, by rw [M.1]; exact M.2.2⟩ ps_nil)))))))))))))))))))))))))))))))))))))))))))))))))))))))))) ?_
  rw [M.1]
  rfl
theorem pk2_run (p : Int) : runF P SK 4 30 [.int .i64 2, .int .i64 p] [] =
  some (I (wid (sk 2 p 13) (IntKind.i64.wrap (2 * (m4W (tk 2 p 14))))),
    [nP1 [.int .i64 1],
     partP [I (ofI 1), .int .i64 1, .int .i64 2],
     iP2 [I (⟨0, 0, false⟩), I (partI (ofI 1) 1 2)],
     nP1 [.int .i64 p],
     iP2 [I (partI (ofI 1) 1 2), I (pointI p)],
     partP [I (mulI (tk 2 p 0) (pointI p)), .int .i64 (-1), .int .i64 12],
     iP2 [I (partI (ofI 1) 1 2), I (tk 2 p 1)],
     nP1 [.int .i64 p],
     iP2 [I (tk 2 p 1), I (pointI p)],
     partP [I (mulI (tk 2 p 1) (pointI p)), .int .i64 (-1), .int .i64 30],
     iP2 [I (sk 2 p 1), I (tk 2 p 2)],
     nP1 [.int .i64 p],
     iP2 [I (tk 2 p 2), I (pointI p)],
     partP [I (mulI (tk 2 p 2) (pointI p)), .int .i64 (-1), .int .i64 56],
     iP2 [I (sk 2 p 2), I (tk 2 p 3)],
     nP1 [.int .i64 p],
     iP2 [I (tk 2 p 3), I (pointI p)],
     partP [I (mulI (tk 2 p 3) (pointI p)), .int .i64 (-1), .int .i64 90],
     iP2 [I (sk 2 p 3), I (tk 2 p 4)],
     nP1 [.int .i64 p],
     iP2 [I (tk 2 p 4), I (pointI p)],
     partP [I (mulI (tk 2 p 4) (pointI p)), .int .i64 (-1), .int .i64 132],
     iP2 [I (sk 2 p 4), I (tk 2 p 5)],
     nP1 [.int .i64 p],
     iP2 [I (tk 2 p 5), I (pointI p)],
     partP [I (mulI (tk 2 p 5) (pointI p)), .int .i64 (-1), .int .i64 182],
     iP2 [I (sk 2 p 5), I (tk 2 p 6)],
     nP1 [.int .i64 p],
     iP2 [I (tk 2 p 6), I (pointI p)],
     partP [I (mulI (tk 2 p 6) (pointI p)), .int .i64 (-1), .int .i64 240],
     iP2 [I (sk 2 p 6), I (tk 2 p 7)],
     nP1 [.int .i64 p],
     iP2 [I (tk 2 p 7), I (pointI p)],
     partP [I (mulI (tk 2 p 7) (pointI p)), .int .i64 (-1), .int .i64 306],
     iP2 [I (sk 2 p 7), I (tk 2 p 8)],
     nP1 [.int .i64 p],
     iP2 [I (tk 2 p 8), I (pointI p)],
     partP [I (mulI (tk 2 p 8) (pointI p)), .int .i64 (-1), .int .i64 380],
     iP2 [I (sk 2 p 8), I (tk 2 p 9)],
     nP1 [.int .i64 p],
     iP2 [I (tk 2 p 9), I (pointI p)],
     partP [I (mulI (tk 2 p 9) (pointI p)), .int .i64 (-1), .int .i64 462],
     iP2 [I (sk 2 p 9), I (tk 2 p 10)],
     nP1 [.int .i64 p],
     iP2 [I (tk 2 p 10), I (pointI p)],
     partP [I (mulI (tk 2 p 10) (pointI p)), .int .i64 (-1), .int .i64 552],
     iP2 [I (sk 2 p 10), I (tk 2 p 11)],
     nP1 [.int .i64 p],
     iP2 [I (tk 2 p 11), I (pointI p)],
     partP [I (mulI (tk 2 p 11) (pointI p)), .int .i64 (-1), .int .i64 650],
     iP2 [I (sk 2 p 11), I (tk 2 p 12)],
     nP1 [.int .i64 p],
     iP2 [I (tk 2 p 12), I (pointI p)],
     partP [I (mulI (tk 2 p 12) (pointI p)), .int .i64 (-1), .int .i64 756],
     iP2 [I (sk 2 p 12), I (tk 2 p 13)],
     nP1 [.int .i64 p],
     iP2 [I (tk 2 p 13), I (pointI p)],
     partP [I (mulI (tk 2 p 13) (pointI p)), .int .i64 (-1), .int .i64 870],
     widP [I (sk 2 p 13), .int .i64 (IntKind.i64.wrap (2 * (m4W (tk 2 p 14))))]]) := by kernel_rfl
theorem pk2_leaf (p : Int) (h1 : -17179869184 ≤ p) (h2 : p ≤ 17179869184) : Gives P 30 #[.int .i64 2, .int .i64 p] (I (pk 2 p)) := by
  have hp : I64 p := by unfold I64; omega
  have M := m4_ok (k := 2) (by omega) h1 h2
  refine gives_of_run mo (pk2_run p) (ps_cons (by unfold nP1 I64; omega) (ps_cons ⟨⟨_, rfl⟩, by unfold I64; omega, by unfold I64; omega⟩ (ps_cons ⟨⟨_, rfl⟩, _, rfl⟩ (ps_cons hp (ps_cons ⟨⟨_, rfl⟩, _, rfl⟩ (ps_cons ⟨⟨_, rfl⟩, by unfold I64; omega, by unfold I64; omega⟩ (ps_cons ⟨⟨_, rfl⟩, _, rfl⟩ (ps_cons hp (ps_cons ⟨⟨_, rfl⟩, _, rfl⟩ (ps_cons ⟨⟨_, rfl⟩, by unfold I64; omega, by unfold I64; omega⟩ (ps_cons ⟨⟨_, rfl⟩, _, rfl⟩ (ps_cons hp (ps_cons ⟨⟨_, rfl⟩, _, rfl⟩ (ps_cons ⟨⟨_, rfl⟩, by unfold I64; omega, by unfold I64; omega⟩ (ps_cons ⟨⟨_, rfl⟩, _, rfl⟩ (ps_cons hp (ps_cons ⟨⟨_, rfl⟩, _, rfl⟩ (ps_cons ⟨⟨_, rfl⟩, by unfold I64; omega, by unfold I64; omega⟩ (ps_cons ⟨⟨_, rfl⟩, _, rfl⟩ (ps_cons hp (ps_cons ⟨⟨_, rfl⟩, _, rfl⟩ (ps_cons ⟨⟨_, rfl⟩, by unfold I64; omega, by unfold I64; omega⟩ (ps_cons ⟨⟨_, rfl⟩, _, rfl⟩ (ps_cons hp (ps_cons ⟨⟨_, rfl⟩, _, rfl⟩ (ps_cons ⟨⟨_, rfl⟩, by unfold I64; omega, by unfold I64; omega⟩ (ps_cons ⟨⟨_, rfl⟩, _, rfl⟩ (ps_cons hp (ps_cons ⟨⟨_, rfl⟩, _, rfl⟩ (ps_cons ⟨⟨_, rfl⟩, by unfold I64; omega, by unfold I64; omega⟩ (ps_cons ⟨⟨_, rfl⟩, _, rfl⟩ (ps_cons hp (ps_cons ⟨⟨_, rfl⟩, _, rfl⟩ (ps_cons ⟨⟨_, rfl⟩, by unfold I64; omega, by unfold I64; omega⟩ (ps_cons ⟨⟨_, rfl⟩, _, rfl⟩ (ps_cons hp (ps_cons ⟨⟨_, rfl⟩, _, rfl⟩ (ps_cons ⟨⟨_, rfl⟩, by unfold I64; omega, by unfold I64; omega⟩ (ps_cons ⟨⟨_, rfl⟩, _, rfl⟩ (ps_cons hp (ps_cons ⟨⟨_, rfl⟩, _, rfl⟩ (ps_cons ⟨⟨_, rfl⟩, by unfold I64; omega, by unfold I64; omega⟩ (ps_cons ⟨⟨_, rfl⟩, _, rfl⟩ (ps_cons hp (ps_cons ⟨⟨_, rfl⟩, _, rfl⟩ (ps_cons ⟨⟨_, rfl⟩, by unfold I64; omega, by unfold I64; omega⟩ (ps_cons ⟨⟨_, rfl⟩, _, rfl⟩ (ps_cons hp (ps_cons ⟨⟨_, rfl⟩, _, rfl⟩ (ps_cons ⟨⟨_, rfl⟩, by unfold I64; omega, by unfold I64; omega⟩ (ps_cons ⟨⟨_, rfl⟩, _, rfl⟩ (ps_cons hp (ps_cons ⟨⟨_, rfl⟩, _, rfl⟩ (ps_cons ⟨⟨_, rfl⟩, by unfold I64; omega, by unfold I64; omega⟩ (ps_cons ⟨⟨_, rfl⟩, _, rfl⟩ (ps_cons hp (ps_cons ⟨⟨_, rfl⟩, _, rfl⟩ (ps_cons ⟨⟨_, rfl⟩, by unfold I64; omega, by unfold I64; omega⟩ (ps_cons ⟨⟨_, rfl⟩, by rw [M.1]; exact M.2.1, by rw [M.1]; exact M.2.2⟩ ps_nil))))))))))))))))))))))))))))))))))))))))))))))))))))))))))) ?_
  rw [M.1]
  rfl
theorem pk3_run (p : Int) : runF P SK 4 30 [.int .i64 3, .int .i64 p] [] =
  some (I (wid (sk 3 p 13) (IntKind.i64.wrap (2 * (m4W (tk 3 p 14))))),
    [nP1 [.int .i64 1],
     partP [I (ofI 1), .int .i64 1, .int .i64 6],
     iP2 [I (⟨0, 0, false⟩), I (partI (ofI 1) 1 6)],
     nP1 [.int .i64 p],
     iP2 [I (partI (ofI 1) 1 6), I (pointI p)],
     partP [I (mulI (tk 3 p 0) (pointI p)), .int .i64 (-1), .int .i64 20],
     iP2 [I (partI (ofI 1) 1 6), I (tk 3 p 1)],
     nP1 [.int .i64 p],
     iP2 [I (tk 3 p 1), I (pointI p)],
     partP [I (mulI (tk 3 p 1) (pointI p)), .int .i64 (-1), .int .i64 42],
     iP2 [I (sk 3 p 1), I (tk 3 p 2)],
     nP1 [.int .i64 p],
     iP2 [I (tk 3 p 2), I (pointI p)],
     partP [I (mulI (tk 3 p 2) (pointI p)), .int .i64 (-1), .int .i64 72],
     iP2 [I (sk 3 p 2), I (tk 3 p 3)],
     nP1 [.int .i64 p],
     iP2 [I (tk 3 p 3), I (pointI p)],
     partP [I (mulI (tk 3 p 3) (pointI p)), .int .i64 (-1), .int .i64 110],
     iP2 [I (sk 3 p 3), I (tk 3 p 4)],
     nP1 [.int .i64 p],
     iP2 [I (tk 3 p 4), I (pointI p)],
     partP [I (mulI (tk 3 p 4) (pointI p)), .int .i64 (-1), .int .i64 156],
     iP2 [I (sk 3 p 4), I (tk 3 p 5)],
     nP1 [.int .i64 p],
     iP2 [I (tk 3 p 5), I (pointI p)],
     partP [I (mulI (tk 3 p 5) (pointI p)), .int .i64 (-1), .int .i64 210],
     iP2 [I (sk 3 p 5), I (tk 3 p 6)],
     nP1 [.int .i64 p],
     iP2 [I (tk 3 p 6), I (pointI p)],
     partP [I (mulI (tk 3 p 6) (pointI p)), .int .i64 (-1), .int .i64 272],
     iP2 [I (sk 3 p 6), I (tk 3 p 7)],
     nP1 [.int .i64 p],
     iP2 [I (tk 3 p 7), I (pointI p)],
     partP [I (mulI (tk 3 p 7) (pointI p)), .int .i64 (-1), .int .i64 342],
     iP2 [I (sk 3 p 7), I (tk 3 p 8)],
     nP1 [.int .i64 p],
     iP2 [I (tk 3 p 8), I (pointI p)],
     partP [I (mulI (tk 3 p 8) (pointI p)), .int .i64 (-1), .int .i64 420],
     iP2 [I (sk 3 p 8), I (tk 3 p 9)],
     nP1 [.int .i64 p],
     iP2 [I (tk 3 p 9), I (pointI p)],
     partP [I (mulI (tk 3 p 9) (pointI p)), .int .i64 (-1), .int .i64 506],
     iP2 [I (sk 3 p 9), I (tk 3 p 10)],
     nP1 [.int .i64 p],
     iP2 [I (tk 3 p 10), I (pointI p)],
     partP [I (mulI (tk 3 p 10) (pointI p)), .int .i64 (-1), .int .i64 600],
     iP2 [I (sk 3 p 10), I (tk 3 p 11)],
     nP1 [.int .i64 p],
     iP2 [I (tk 3 p 11), I (pointI p)],
     partP [I (mulI (tk 3 p 11) (pointI p)), .int .i64 (-1), .int .i64 702],
     iP2 [I (sk 3 p 11), I (tk 3 p 12)],
     nP1 [.int .i64 p],
     iP2 [I (tk 3 p 12), I (pointI p)],
     partP [I (mulI (tk 3 p 12) (pointI p)), .int .i64 (-1), .int .i64 812],
     iP2 [I (sk 3 p 12), I (tk 3 p 13)],
     nP1 [.int .i64 p],
     iP2 [I (tk 3 p 13), I (pointI p)],
     partP [I (mulI (tk 3 p 13) (pointI p)), .int .i64 (-1), .int .i64 930],
     widP [I (sk 3 p 13), .int .i64 (IntKind.i64.wrap (2 * (m4W (tk 3 p 14))))]]) := by kernel_rfl
theorem pk3_leaf (p : Int) (h1 : -17179869184 ≤ p) (h2 : p ≤ 17179869184) : Gives P 30 #[.int .i64 3, .int .i64 p] (I (pk 3 p)) := by
  have hp : I64 p := by unfold I64; omega
  have M := m4_ok (k := 3) (by omega) h1 h2
  refine gives_of_run mo (pk3_run p) (ps_cons (by unfold nP1 I64; omega) (ps_cons ⟨⟨_, rfl⟩, by unfold I64; omega, by unfold I64; omega⟩ (ps_cons ⟨⟨_, rfl⟩, _, rfl⟩ (ps_cons hp (ps_cons ⟨⟨_, rfl⟩, _, rfl⟩ (ps_cons ⟨⟨_, rfl⟩, by unfold I64; omega, by unfold I64; omega⟩ (ps_cons ⟨⟨_, rfl⟩, _, rfl⟩ (ps_cons hp (ps_cons ⟨⟨_, rfl⟩, _, rfl⟩ (ps_cons ⟨⟨_, rfl⟩, by unfold I64; omega, by unfold I64; omega⟩ (ps_cons ⟨⟨_, rfl⟩, _, rfl⟩ (ps_cons hp (ps_cons ⟨⟨_, rfl⟩, _, rfl⟩ (ps_cons ⟨⟨_, rfl⟩, by unfold I64; omega, by unfold I64; omega⟩ (ps_cons ⟨⟨_, rfl⟩, _, rfl⟩ (ps_cons hp (ps_cons ⟨⟨_, rfl⟩, _, rfl⟩ (ps_cons ⟨⟨_, rfl⟩, by unfold I64; omega, by unfold I64; omega⟩ (ps_cons ⟨⟨_, rfl⟩, _, rfl⟩ (ps_cons hp (ps_cons ⟨⟨_, rfl⟩, _, rfl⟩ (ps_cons ⟨⟨_, rfl⟩, by unfold I64; omega, by unfold I64; omega⟩ (ps_cons ⟨⟨_, rfl⟩, _, rfl⟩ (ps_cons hp (ps_cons ⟨⟨_, rfl⟩, _, rfl⟩ (ps_cons ⟨⟨_, rfl⟩, by unfold I64; omega, by unfold I64; omega⟩ (ps_cons ⟨⟨_, rfl⟩, _, rfl⟩ (ps_cons hp (ps_cons ⟨⟨_, rfl⟩, _, rfl⟩ (ps_cons ⟨⟨_, rfl⟩, by unfold I64; omega, by unfold I64; omega⟩ (ps_cons ⟨⟨_, rfl⟩, _, rfl⟩ (ps_cons hp (ps_cons ⟨⟨_, rfl⟩, _, rfl⟩ (ps_cons ⟨⟨_, rfl⟩, by unfold I64; omega, by unfold I64; omega⟩ (ps_cons ⟨⟨_, rfl⟩, _, rfl⟩ (ps_cons hp (ps_cons ⟨⟨_, rfl⟩, _, rfl⟩ (ps_cons ⟨⟨_, rfl⟩, by unfold I64; omega, by unfold I64; omega⟩ (ps_cons ⟨⟨_, rfl⟩, _, rfl⟩ (ps_cons hp (ps_cons ⟨⟨_, rfl⟩, _, rfl⟩ (ps_cons ⟨⟨_, rfl⟩, by unfold I64; omega, by unfold I64; omega⟩ (ps_cons ⟨⟨_, rfl⟩, _, rfl⟩ (ps_cons hp (ps_cons ⟨⟨_, rfl⟩, _, rfl⟩ (ps_cons ⟨⟨_, rfl⟩, by unfold I64; omega, by unfold I64; omega⟩ (ps_cons ⟨⟨_, rfl⟩, _, rfl⟩ (ps_cons hp (ps_cons ⟨⟨_, rfl⟩, _, rfl⟩ (ps_cons ⟨⟨_, rfl⟩, by unfold I64; omega, by unfold I64; omega⟩ (ps_cons ⟨⟨_, rfl⟩, _, rfl⟩ (ps_cons hp (ps_cons ⟨⟨_, rfl⟩, _, rfl⟩ (ps_cons ⟨⟨_, rfl⟩, by unfold I64; omega, by unfold I64; omega⟩ (ps_cons ⟨⟨_, rfl⟩, _, rfl⟩ (ps_cons hp (ps_cons ⟨⟨_, rfl⟩, _, rfl⟩ (ps_cons ⟨⟨_, rfl⟩, by unfold I64; omega, by unfold I64; omega⟩ (ps_cons ⟨⟨_, rfl⟩, by rw [M.1]; exact M.2.1, by rw [M.1]; exact M.2.2⟩ ps_nil))))))))))))))))))))))))))))))))))))))))))))))))))))))))))) ?_
  rw [M.1]
  rfl
theorem pk_gives (args : List Value) (h : pkP args) : Gives P 30 args.toArray (pkV args) := by
  unfold pkP at h
  split at h
  · rename_i k p
    obtain ⟨h0, h3, h1, h2⟩ := h
    show Gives P _ #[.int .i64 k, .int .i64 p] (I (pk k.toNat p))
    have hk : k = 0 ∨ k = 1 ∨ k = 2 ∨ k = 3 := by omega
    rcases hk with rfl | rfl | rfl | rfl
    · exact pk0_leaf p h1 h2
    · exact pk1_leaf p h1 h2
    · exact pk2_leaf p h1 h2
    · exact pk3_leaf p h1 h2
  · exact h.elim
noncomputable def cPoint' : Ctr P := ⟨30, pkP, pkV, pk_gives⟩
noncomputable def SC : Env P := ⟨⟨[cWider, cPoint', cMiddle] ++ ivalC, ivalD⟩, [], 20, []⟩
/-! ### C -/
def cP : List Value → Prop
  | [.int .i64 _, x] => ∃ a, x = I a
  | _ => False
def cV (k : Int) (a : Iv) : Iv := bif decide (k ≥ 0) && decide (k ≤ 3) then cI k.toNat a else bd
def cVal : List Value → Value
  | [.int _ k, x] => I (cV k (rd x))
  | _ => undef
structure CF (a : Iv) : Prop where
  m : mM a = midm a
  p1 : -17179869184 ≤ mM a
  p2 : mM a ≤ 17179869184
  r : IntKind.i64.wrap (4 * rM a) = 4 * midr a
  r1 : -1152921504606846976 ≤ 4 * midr a
  r2 : 4 * midr a ≤ 1152921504606846976
theorem cF {a : Iv} (h : holdsI (makeI (-17179869184) 17179869184) a = true) : CF a := by
  obtain ⟨fa, b1, b2⟩ := holds_16 h
  obtain ⟨m1, m2, m3, m4, m5, m6⟩ := mid_spec fa
  have e1 : mM a = midm a := by unfold mM; rw [fine1, fa]; rfl
  have e2 : rM a = midr a := by unfold rM; rw [fine1, fa]; rfl
  exact ⟨e1, by omega, by omega, by rw [e2]; exact wr (by omega) (by omega), by omega, by omega⟩
theorem holds_fine {b a : Iv} (h : fineL [a] = false) : holdsI b a = false := by
  rw [fine1] at h
  unfold holdsI
  have : fineL [b, a] = false := by
    rw [← Bool.not_eq_true, fine2, h]; simp
  rw [this]; rfl
theorem cc0_run (k : Int) (a : Iv) : runF P SC 2 14 [.int .i64 k, I a] (.b true :: (.b false :: (.b false :: (.b false :: [])))) =
  some (I (wid (pk (k).toNat (mM a)) (IntKind.i64.wrap (4 * (rM a)))),
    [iP1 [I a],
     (decide (k ≥ 0)) = true,
     (!(decide (k ≤ 3))) = false,
     (!(fineL [a])) = false,
     nP2 [.int .i64 (-17179869184), .int .i64 17179869184],
     iP2 [I (makeI (-17179869184) 17179869184), I a],
     (!(holdsI (makeI (-17179869184) 17179869184) a)) = false,
     pkP [.int .i64 k, .int .i64 (mM a)],
     widP [I (pk (k).toNat (mM a)), .int .i64 (IntKind.i64.wrap (4 * (rM a)))]]) := by kernel_rfl
theorem cc0_leaf (k : Int) (a : Iv)  (q0 : (decide (k ≥ 0)) = true) (q1 : (decide (k ≤ 3)) = true) (q2 : (fineL [a]) = true) (q3 : (holdsI (makeI (-17179869184) 17179869184) a) = true) : Gives P 14 #[.int .i64 k, I a] (I (cV k a)) := by
  have R := cc0_run k a
  refine gives_of_run mo R (ps_cons ⟨_, rfl⟩ (ps_cons q0 (ps_cons (neg_f q1) (ps_cons (neg_f q2) (ps_cons (by unfold nP2 I64; omega) (ps_cons ⟨⟨_, rfl⟩, _, rfl⟩ (ps_cons (neg_f q3) (ps_cons ⟨of_decide_eq_true q0, of_decide_eq_true q1, (cF q3).p1, (cF q3).p2⟩ (ps_cons ⟨⟨_, rfl⟩, by rw [(cF q3).r]; exact (cF q3).r1, by rw [(cF q3).r]; exact (cF q3).r2⟩ ps_nil))))))))) ?_
  have hh : holdsI (around 17179869184) a = true := q3
  unfold cV cI
  rw [q0, q1, hh, (cF q3).r, (cF q3).m]
  rfl
theorem cc1_run (k : Int) (a : Iv) : runF P SC 2 14 [.int .i64 k, I a] (.b false :: []) =
  some (I (⟨0, 0, true⟩),
    [iP1 [I a],
     (decide (k ≥ 0)) = false]) := by kernel_rfl
theorem cc1_leaf (k : Int) (a : Iv)  (q0 : (decide (k ≥ 0)) = false) : Gives P 14 #[.int .i64 k, I a] (I (cV k a)) := by
  have R := cc1_run k a
  refine gives_of_run mo R (ps_cons ⟨_, rfl⟩ (ps_cons q0 ps_nil)) ?_
  unfold cV
  rw [q0]
  rfl
theorem cc2_run (k : Int) (a : Iv) : runF P SC 2 14 [.int .i64 k, I a] (.b true :: (.b true :: [])) =
  some (I (⟨0, 0, true⟩),
    [iP1 [I a],
     (decide (k ≥ 0)) = true,
     (!(decide (k ≤ 3))) = true]) := by kernel_rfl
theorem cc2_leaf (k : Int) (a : Iv)  (q0 : (decide (k ≥ 0)) = true) (q1 : (decide (k ≤ 3)) = false) : Gives P 14 #[.int .i64 k, I a] (I (cV k a)) := by
  have R := cc2_run k a
  refine gives_of_run mo R (ps_cons ⟨_, rfl⟩ (ps_cons q0 (ps_cons (neg_t q1) ps_nil))) ?_
  unfold cV
  rw [q0, q1]
  rfl
theorem cc3_run (k : Int) (a : Iv) : runF P SC 2 14 [.int .i64 k, I a] (.b true :: (.b false :: (.b true :: []))) =
  some (I (⟨0, 0, true⟩),
    [iP1 [I a],
     (decide (k ≥ 0)) = true,
     (!(decide (k ≤ 3))) = false,
     (!(fineL [a])) = true]) := by kernel_rfl
theorem cc3_leaf (k : Int) (a : Iv)  (q0 : (decide (k ≥ 0)) = true) (q1 : (decide (k ≤ 3)) = true) (q2 : (fineL [a]) = false) : Gives P 14 #[.int .i64 k, I a] (I (cV k a)) := by
  have R := cc3_run k a
  refine gives_of_run mo R (ps_cons ⟨_, rfl⟩ (ps_cons q0 (ps_cons (neg_f q1) (ps_cons (neg_t q2) ps_nil)))) ?_
  have hh : holdsI (around 17179869184) a = false := holds_fine q2
  unfold cV cI
  rw [q0, q1, hh]
  rfl
theorem cc4_run (k : Int) (a : Iv) : runF P SC 2 14 [.int .i64 k, I a] (.b true :: (.b false :: (.b false :: (.b true :: [])))) =
  some (I (⟨0, 0, true⟩),
    [iP1 [I a],
     (decide (k ≥ 0)) = true,
     (!(decide (k ≤ 3))) = false,
     (!(fineL [a])) = false,
     nP2 [.int .i64 (-17179869184), .int .i64 17179869184],
     iP2 [I (makeI (-17179869184) 17179869184), I a],
     (!(holdsI (makeI (-17179869184) 17179869184) a)) = true]) := by kernel_rfl
theorem cc4_leaf (k : Int) (a : Iv)  (q0 : (decide (k ≥ 0)) = true) (q1 : (decide (k ≤ 3)) = true) (q2 : (fineL [a]) = true) (q3 : (holdsI (makeI (-17179869184) 17179869184) a) = false) : Gives P 14 #[.int .i64 k, I a] (I (cV k a)) := by
  have R := cc4_run k a
  refine gives_of_run mo R (ps_cons ⟨_, rfl⟩ (ps_cons q0 (ps_cons (neg_f q1) (ps_cons (neg_f q2) (ps_cons (by unfold nP2 I64; omega) (ps_cons ⟨⟨_, rfl⟩, _, rfl⟩ (ps_cons (neg_t q3) ps_nil))))))) ?_
  have hh : holdsI (around 17179869184) a = false := q3
  unfold cV cI
  rw [q0, q1, hh]
  rfl
theorem cc_gives (args : List Value) (h : cP args) : Gives P 14 args.toArray ((cVal) args) := by
  unfold cP at h
  split at h
  · rename_i k x
    obtain ⟨a, rfl⟩ := h
    show Gives P _ #[.int .i64 k, I a] (I (cV k a))
    cases q0 : (decide (k ≥ 0)) with
    | true =>
      cases q1 : (decide (k ≤ 3)) with
      | true =>
        cases q2 : (fineL [a]) with
        | true =>
          cases q3 : (holdsI (makeI (-17179869184) 17179869184) a) with
          | true =>
            exact cc0_leaf k a  q0 q1 q2 q3
          | false =>
            exact cc4_leaf k a  q0 q1 q2 q3
        | false =>
          exact cc3_leaf k a  q0 q1 q2
      | false =>
        exact cc2_leaf k a  q0 q1
    | false =>
      exact cc1_leaf k a  q0
  · exact h.elim
noncomputable def cC : Ctr P := ⟨14, cP, cVal, cc_gives⟩
noncomputable def SA : Env P := ⟨⟨[cC], []⟩, [], 10, []⟩
theorem al0_run (a : Iv) : runF P SA 2 16 [I a] [] =
  some (.agg #[.int .i64 ((cV 0 a).lo), .int .i64 ((cV 0 a).hi), .bool ((cV 0 a).bad), .int .i64 ((cV 1 a).lo), .int .i64 ((cV 1 a).hi), .bool ((cV 1 a).bad), .int .i64 ((cV 2 a).lo), .int .i64 ((cV 2 a).hi), .bool ((cV 2 a).bad), .int .i64 ((cV 3 a).lo), .int .i64 ((cV 3 a).hi), .bool ((cV 3 a).bad)],
    [cP [.int .i64 0, I a],
     cP [.int .i64 1, I a],
     cP [.int .i64 2, I a],
     cP [.int .i64 3, I a]]) := by kernel_rfl
theorem al0_leaf (a : Iv)   : Gives P 16 #[I a] (.agg #[.int .i64 (cV 0 a).lo, .int .i64 (cV 0 a).hi, .bool (cV 0 a).bad, .int .i64 (cV 1 a).lo, .int .i64 (cV 1 a).hi, .bool (cV 1 a).bad, .int .i64 (cV 2 a).lo, .int .i64 (cV 2 a).hi, .bool (cV 2 a).bad, .int .i64 (cV 3 a).lo, .int .i64 (cV 3 a).hi, .bool (cV 3 a).bad]) := by
  have R := al0_run a
  refine gives_of_run mo R (ps_cons ⟨_, rfl⟩ (ps_cons ⟨_, rfl⟩ (ps_cons ⟨_, rfl⟩ (ps_cons ⟨_, rfl⟩ ps_nil)))) ?_
  rfl
theorem al_gives (args : List Value) (h : iP1 args) : Gives P 16 args.toArray ((one1 fun a => .agg #[.int .i64 (cV 0 a).lo, .int .i64 (cV 0 a).hi, .bool (cV 0 a).bad, .int .i64 (cV 1 a).lo, .int .i64 (cV 1 a).hi, .bool (cV 1 a).bad, .int .i64 (cV 2 a).lo, .int .i64 (cV 2 a).hi, .bool (cV 2 a).bad, .int .i64 (cV 3 a).lo, .int .i64 (cV 3 a).hi, .bool (cV 3 a).bad]) args) := by
  unfold iP1 at h
  split at h
  · obtain ⟨a, rfl⟩ := h
    show Gives P _ #[I a] (.agg #[.int .i64 (cV 0 a).lo, .int .i64 (cV 0 a).hi, .bool (cV 0 a).bad, .int .i64 (cV 1 a).lo, .int .i64 (cV 1 a).hi, .bool (cV 1 a).bad, .int .i64 (cV 2 a).lo, .int .i64 (cV 2 a).hi, .bool (cV 2 a).bad, .int .i64 (cV 3 a).lo, .int .i64 (cV 3 a).hi, .bool (cV 3 a).bad])
    exact al0_leaf a  
  · exact h.elim
noncomputable def cAll : Ctr P := ⟨16, iP1, one1 fun a => .agg #[.int .i64 (cV 0 a).lo, .int .i64 (cV 0 a).hi, .bool (cV 0 a).bad, .int .i64 (cV 1 a).lo, .int .i64 (cV 1 a).hi, .bool (cV 1 a).bad, .int .i64 (cV 2 a).lo, .int .i64 (cV 2 a).hi, .bool (cV 2 a).bad, .int .i64 (cV 3 a).lo, .int .i64 (cV 3 a).hi, .bool (cV 3 a).bad], al_gives⟩
noncomputable def stuC : List (Ctr P) := [cC, cAll]
end Go.St
