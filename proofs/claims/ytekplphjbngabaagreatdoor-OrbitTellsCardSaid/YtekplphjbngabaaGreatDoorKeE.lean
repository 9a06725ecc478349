/-
 Laws of chapter 20: facts, may, wakes. Printed by keE.py.
-/
import Derived.Test.YtekplphjbngabaaGreatDoorKeD
import Derived.Test.YtekplphjbngabaaGreatDoorRf5
set_option maxRecDepth 100000
namespace Go.Ke
open Go Go.RowKit Go.Sx Go.Nm Go.Wd Go.Qt Go.Iv Go.An Go.Wv Go.Nv Go.Proofs
structure So (m e f : Int) (k : Nat) : Prop where
 i : soI m e f = ⟨(hv m e (-1) k).1, (hv m e 1 k).1, false⟩
 n : soN m e f = 2 * k
 ee : soE m e f = bif decide (f ≥ 31) then 0 else 200
 kk : (k : Int) = mn f 31
 k31 : k ≤ 31
 l : HvF m e (-1) k
 u : HvF m e 1 k
theorem so {m e f : Int} (h : mB m e = true) (g : fB f = true) : So m e f (mn f 31).toNat := by
 have a := mB_iff.1 h
 have b := fB_iff.1 g
 have k0 : ((mn f 31).toNat : Int) = mn f 31 := by unfold mn; split <;> omega
 have k1 : (mn f 31).toNat ≤ 31 := by unfold mn; split <;> omega
 refine ⟨?_, ?_, ?_, k0, k1, hv_facts a.1 a.2.1 a.2.2.1 a.2.2.2 (.inl rfl) _ k1, hv_facts a.1 a.2.1 a.2.2.1 a.2.2.2 (.inr rfl) _ k1⟩
 · unfold soI; rw [h, g]; rfl
 · unfold soN haN; rw [h, g]
   show IntKind.i64.wrap (mn f 31 + mn f 31) = _
   rw [← k0, Iv.wr (by omega) (by omega)]; omega
 · unfold soE haD; rw [h, g]; rfl
theorem so40 {m e : Int} (h : mB m e = true) : So m e 40 31 := so h (f := 40) rfl
theorem gp_of {m e p : Int} (h : mB m e = true) (h1 : m - 1073741824 ≤ p) (h2 : p ≤ m + 1073741824) : pB p = true ∧ gpI m e p = gapI m e p ∧ gpE m e p = 0 := by
 have a := mB_iff.1 h
 have b : pB p = true := pB_iff.2 ⟨by omega, by omega⟩
 refine ⟨b, ?_, ?_⟩
 · unfold gpI; rw [h, b]; rfl
 · unfold gpE; rw [h, b]; rfl
structure Nr (m e : Int) : Prop where
 p : nrP m e = ((hv m e (-1) 31).1 + (hv m e 1 31).1) / 2
 r : nrR m e = mx ((hv m e 1 31).1 - ((hv m e (-1) 31).1 + (hv m e 1 31).1) / 2) (((hv m e (-1) 31).1 + (hv m e 1 31).1) / 2 - (hv m e (-1) 31).1)
 e : nrE m e = 0
theorem nr {m e : Int} (h : mB m e = true) : Nr m e := by
 have s := so40 h
 have a := mB_iff.1 h
 have e0 : (soE m e 40 == 2) = false := by rw [s.ee]; rfl
 have l1 := s.l.a1
 have l2 := s.l.a2
 have u1 := s.u.a1
 have u2 := s.u.a2
 have w : (IntKind.i64.wrap ((hv m e (-1) 31).1 + (hv m e 1 31).1)).fdiv (2 ^ 1) = ((hv m e (-1) 31).1 + (hv m e 1 31).1) / 2 := by
  rw [Iv.wr (by omega) (by omega), Int.fdiv_eq_ediv_of_nonneg _ (by decide)]; rfl
 refine ⟨?_, ?_, ?_⟩
 · unfold nrP; rw [e0, s.i]; exact w
 · unfold nrR; rw [e0, s.i]
   show mx (IntKind.i64.wrap ((hv m e 1 31).1 - (IntKind.i64.wrap ((hv m e (-1) 31).1 + (hv m e 1 31).1)).fdiv (2 ^ 1))) (IntKind.i64.wrap ((IntKind.i64.wrap ((hv m e (-1) 31).1 + (hv m e 1 31).1)).fdiv (2 ^ 1) - (hv m e (-1) 31).1)) = _
   rw [w, Iv.wr (by omega) (by omega), Iv.wr (by omega) (by omega)]
 · unfold nrE; rw [e0]; rfl
noncomputable def E0 : Env P := ⟨⟨[], [rFine]⟩, [], 10, []⟩
def mbV : List Value → Value
 | [.int _ m, .int _ e] => .bool (mB m e)
 | _ => undef
def wakesP : List Value → Prop
 | [] => True
 | _ => False
def wakesV : List Value → Value
 | [] => .bool true
 | _ => undef
noncomputable def EW : Env P := ⟨⟨kepC, []⟩, [], 20, []⟩
theorem sg_three (m e p : Int) : sg m e p = 1 ∨ sg m e p = -1 ∨ sg m e p = 0 := by
 unfold sg signN
 cases fineL [gapI m e p] with
 | false => exact .inr (.inr rfl)
 | true =>
  by_cases h1 : (gapI m e p).lo > 0
  · exact .inl (if_pos h1)
  · by_cases h2 : (gapI m e p).hi < 0
    · exact .inr (.inl ((if_neg h1).trans (if_pos h2)))
    · exact .inr (.inr ((if_neg h1).trans (if_neg h2)))
end Go.Ke
