/-
 Chapter 21: what a whole number is, may, wakes. Printed by orC.py.
-/
import Derived.Test.YtekplphjbngabaaGreatDoorOrB
import Derived.Test.YtekplphjbngabaaGreatDoorOrD
import Derived.Test.YtekplphjbngabaaGreatDoorRf5
set_option maxRecDepth 100000
namespace Go.Or
open Go Go.RowKit Go.Sx Go.Nm Go.Wd Go.Qt Go.Iv Go.An Go.Wv Go.Nv Go.Ke Go.Proofs
theorem nq_tie {s D : Int} (h : 0 < D) : (2 * s = (2 * nq s D + 1) * D → nq s D < 0) ∧ (2 * s = (2 * nq s D - 1) * D → 0 < nq s D) := by
 obtain ⟨e, r0, r1⟩ := He.fq_rest (a := s) h
 have hb : cmp3 D 0 = 1 := by unfold cmp3; omega
 have c : nc s D = cmp3 (fr s D) (D - fr s D) := by unfold nc; rw [hb, Int.mul_one]
 unfold nq
 rw [c]
 generalize fq s D = q at *
 generalize fr s D = r at *
 subst e
 have e1 : (2 * (q + 1) + 1) * D = 2 * (D * q) + 3 * D := by grind
 have e2 : (2 * (q + 1) - 1) * D = 2 * (D * q) + D := by grind
 have e3 : (2 * q + 1) * D = 2 * (D * q) + D := by grind
 have e4 : (2 * q - 1) * D = 2 * (D * q) - D := by grind
 by_cases hc : cmp3 r (D - r) > 0 ∨ cmp3 r (D - r) = 0 ∧ 0 ≤ q
 · rw [if_pos hc, e1, e2]
   refine ⟨fun g => by omega, fun g => ?_⟩
   have : cmp3 r (D - r) = 0 := by unfold cmp3; omega
   omega
 · rw [if_neg hc, e3, e4]
   refine ⟨fun g => ?_, fun g => by omega⟩
   have : cmp3 r (D - r) = 0 := by unfold cmp3; omega
   omega
structure Wh (i : Iv) : Prop where
 b : -1073741824 ≤ whN i ∧ whN i ≤ 1073741824
 l : -1073741824 ≤ i.lo + i.hi - 2 * whN i * 1073741824
 u : i.lo + i.hi - 2 * whN i * 1073741824 ≤ 1073741824
 t1 : i.lo + i.hi - 2 * whN i * 1073741824 = 1073741824 → whN i < 0
 t2 : i.lo + i.hi - 2 * whN i * 1073741824 = -1073741824 → 0 < whN i
 r0 : 0 ≤ whR i
 r1 : whN i * 1073741824 - i.lo ≤ whR i * 1073741824
 r2 : i.hi - whN i * 1073741824 ≤ whR i * 1073741824
 r3 : whR i = 0 ∨ (whR i - 1) * 1073741824 < whN i * 1073741824 - i.lo ∨ (whR i - 1) * 1073741824 < i.hi - whN i * 1073741824
 r4 : whR i ≤ 2147483648
theorem wh {i : Iv} (f : fine i = true) : Wh i := by
 have ri := fine_iff.1 f
 have w1 : IntKind.i64.wrap (i.lo + i.hi) = i.lo + i.hi := Iv.wr (by omega) (by omega)
 have nb := He.nq_in (S := i.lo + i.hi) (D := 2147483648) (M := 1073741824) (by decide) (by omega)
 have n2 := He.nq_two (a := i.lo + i.hi) (b := 2147483648) (by decide)
 have nt := nq_tie (s := i.lo + i.hi) (D := 2147483648) (by decide)
 have en : whN i = nq (i.lo + i.hi) 2147483648 := by
  unfold whN nW
  rw [fine1, f, w1]
  show Qt.iv (i.lo + i.hi) 1 2147483648 = _
  have ei : ie (i.lo + i.hi) 1 2147483648 = 0 := by
   unfold ie
   rw [if_neg (by decide), Int.mul_one, if_pos]
   unfold i64B
   rw [decide_eq_true (by omega), decide_eq_true (by omega)]; rfl
  unfold Qt.iv
  rw [if_pos ei, Int.mul_one]
 have ew : nW i = whN i := by unfold whN; rw [fine1, f]; rfl
 rw [← en] at nb n2 nt
 have fw : farW i = mx (whN i * 1073741824 - i.lo) (i.hi - whN i * 1073741824) := by
  unfold farW
  rw [ew, Iv.wr (n := whN i * 1073741824) (by omega) (by omega), Iv.wr (by omega) (by omega), Iv.wr (by omega) (by omega)]
 have f1 := mx_le.1 (Int.le_of_eq fw.symm)
 have f2 : farW i = whN i * 1073741824 - i.lo ∨ farW i = i.hi - whN i * 1073741824 := by
  rw [fw]; unfold mx; split
  · exact .inr rfl
  · exact .inl rfl
 have er : whR i = if farW i > 0 then (farW i - 1) / 1073741824 + 1 else 0 := by
  unfold whR
  rw [fine1, f]
  show (bif decide (farW i > 0) then _ else 0) = _
  by_cases h : farW i > 0
  · rw [decide_eq_true h, if_pos h, cond_true, Iv.wr (n := farW i - 1) (by omega) (by omega), Int.tdiv_eq_ediv_of_nonneg (by omega)]
    rw [Iv.wr (n := (farW i - 1) / 1073741824) (by omega) (by omega), Iv.wr (by omega) (by omega)]
  · rw [decide_eq_false h, if_neg h]; rfl
 refine ⟨nb, by omega, by omega, fun g => nt.1 (by omega), fun g => nt.2 (by omega), ?_, ?_, ?_, ?_, ?_⟩ <;> rw [er] <;> split <;> omega
noncomputable def E1 : Env P := ⟨⟨[], [rFine]⟩, [], 20, []⟩
theorem m2 {m : Int} (h1 : m ≥ 0) (h2 : m ≤ 3221225472) : IntKind.i64.wrap (IntKind.i64.wrap (m + 1073741824) - (IntKind.i64.wrap (m - 1073741824))) = 2147483648 := by
 rw [Iv.wr (n := m + 1073741824) (by omega) (by omega), Iv.wr (n := m - 1073741824) (by omega) (by omega), Iv.wr (by omega) (by omega)]; omega
def wakesP : List Value → Prop
 | [] => True
 | _ => False
def wakesV : List Value → Value
 | [] => .bool true
 | _ => undef
noncomputable def EW : Env P := ⟨⟨orbC ++ R5.rf5C, [rFine]⟩, [], 30, []⟩
theorem so_0 : soI 0 0 40 = ⟨-1, 1, false⟩ := by
 rw [(so40 (m := 0) (e := 0) rfl).i, (circle (m := 0) (by decide) (by decide)).1, (circle (m := 0) (by decide) (by decide)).2]; rfl
theorem at_0 : atX 1000 0 0 = 1000 ∧ atY 1000 0 0 = 0 ∧ 0 ≤ atR 1000 0 0 ∧ atR 1000 0 0 ≤ 1 := by
 have x : xI 1000 0 0 = partI (subI (waveI true ⟨-1, 1, false⟩) (pointI 0)) 1000 1 := by unfold xI; rw [so_0]; rfl
 have y : yI 1000 0 0 = partI (mulI (smI 0) (waveI false ⟨-1, 1, false⟩)) 1000 1 := by unfold yI; rw [so_0]; rfl
 unfold atX atY atR
 rw [x, y]
 decide +kernel
theorem wakes_run : runF P EW 4 4 [] (lits 5 (.b false :: (.lit :: (.lit :: (.b false :: (.lit :: (.lit :: (.b false :: (.lit :: (.lit :: (.b false :: (.lit :: (.b true :: (.b true :: (.b true :: (.b true :: (.b true :: (.b true :: (.b true :: (.b true :: (.lit :: (.lit :: (.b true :: (.b true :: [])))))))))))))))))))))))) = some (.bool (smE (-1) == 2), [i3P [.int .i64 1000, .int .i64 0, .int .i64 0], i3P [.int .i64 0, .int .i64 0, .int .i64 0], iP1 [I (⟨268435456, 2147483648, false⟩)], i3P [.int .i64 1000, .int .i64 0, .int .i64 0], (plE 1000 0 0 != 0) = false, 0 < 1000000, (plE 1000 0 0 != 0) = false, i3P [.int .i64 1000, .int .i64 0, .int .i64 0], (plE 1000 0 0 != 0) = false, 1 < 1000000, (plE 1000 0 0 != 0) = false, nP1 [.int .i64 0], nP1 [.int .i64 (-1)], ((atX 1000 0 0 == 1000) && ((atY 1000 0 0 == 0) && true)) = true, (decide (atR 1000 0 0 ≤ 1)) = true, (decide (atR 1000 0 0 ≥ 0)) = true, (plE 1000 0 0 == 0) = true, (plE 0 0 0 == 2) = true, (whN (⟨268435456, 2147483648, false⟩) == 1) = true, (whR (⟨268435456, 2147483648, false⟩) == 1) = true, (fineL [⟨268435456, 2147483648, false⟩]) = true, nP1 [.int .i64 1], iP2 [I (smI 0), I (ofI 1)], (holdsI (smI 0) (ofI 1)) = true, (smE 0 == 0) = true]) := by kernel_rfl
theorem wakes_gives (args : List Value) (h : wakesP args) : Gives P 4 args.toArray (wakesV args) := by
 unfold wakesP at h
 split at h
 · exact gives_of_run mo wakes_run (ps_cons ⟨(by unfold I64; decide), (by unfold I64; decide), (by unfold I64; decide)⟩ (ps_cons ⟨(by unfold I64; decide), (by unfold I64; decide), (by unfold I64; decide)⟩ (ps_cons ⟨_, rfl⟩ (ps_cons ⟨(by unfold I64; decide), (by unfold I64; decide), (by unfold I64; decide)⟩ (ps_cons (by decide +kernel) (ps_cons (by decide) (ps_cons (by decide +kernel) (ps_cons ⟨(by unfold I64; decide), (by unfold I64; decide), (by unfold I64; decide)⟩ (ps_cons (by decide +kernel) (ps_cons (by decide) (ps_cons (by decide +kernel) (ps_cons (by unfold nP1 I64; decide) (ps_cons (by unfold nP1 I64; decide) (ps_cons (by rw [at_0.1, at_0.2.1]; rfl) (ps_cons (decide_eq_true at_0.2.2.2) (ps_cons (decide_eq_true at_0.2.2.1) (ps_cons (by decide +kernel) (ps_cons (by decide +kernel) (ps_cons (by decide +kernel) (ps_cons (by decide +kernel) (ps_cons (by decide +kernel) (ps_cons (by unfold nP1 I64; decide) (ps_cons ⟨⟨_, rfl⟩, _, rfl⟩ (ps_cons (by decide +kernel) (ps_cons (by decide +kernel) ps_nil))))))))))))))))))))))))) (by kernel_rfl)
 · exact h.elim
noncomputable def oWakes : Ctr P := ⟨4, wakesP, wakesV, wakes_gives⟩
end Go.Or
