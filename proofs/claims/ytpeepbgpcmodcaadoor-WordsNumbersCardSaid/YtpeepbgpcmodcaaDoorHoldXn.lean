/-
  Proved: WordsNumbers (the law's function returns true, and the arguments read as before), for every input; the row's listed variables are tied to the program's text. Conditions: none but the row's own.
-/
import Derived.Test.YtpeepbgpcmodcaaDoorTxR
import Derived.Test.YtpeepbgpcmodcaaDoorHoldXx
import Derived.Test.YtpeepbgpcmodcaaDoorCards
import Derived.Test.YtpeepbgpcmodcaaDoorTie
import Derived.SevenTiedAt
set_option maxRecDepth 100000
namespace Go.Proofs.YtpeepbgpcmodcaaDoor
open Go Go.ChangeShapes Go.WideShapes Go.ChangeAt Go.RowKit Go.Sx
set_option maxRecDepth 100000 in
theorem wordsNumbers_lifted (os : Os) (started : os.Started) (H : Type) (enc : TypeId × Value → H) :
    ReturnsInHanded {} Tryd.checked os 6 .any (fun w args => (Rows.wordsNumbersSpec.pre enc Tryd.prog Tryd.f6 [] false w args ∧ laidMetH Tryd.prog laidL w) ∧ sizedMet enc Tryd.prog Tryd.f6 (OpenSpec.ofChange Rows.wordsNumbersSpec) false w args) (Rows.wordsNumbersSpec.post enc Tryd.prog Tryd.f6 false true false false) := by
  refine returnsInHanded_of_change_and (C := Tryd.checked) (X := fun w _ => laidMetH Tryd.prog laidL w) (fun _ _ _ hh h => h.of_heap hh) own started (by kernel_rfl) (rfl : Tryd.prog.funcs[6]? = some Tryd.f6)
    (ChangeSpec.witness_shaped (enc := enc) (C := Tryd.checked) (os := os) (X := fun w _ => laidMetH Tryd.prog laidL w) false (World.laidAll Tryd.prog os laidL) #[.int .i64 0, .bool false, .int .i64 0, .int .i32 0, .int .i64 0] 8 (World.laidAll_os _ _ _) (World.shaped_of_ZipB (by kernel_rfl) (by kernel_rfl)) (by kernel_rfl) (by kernel_rfl) (by kernel_rfl) (laid_met os _)) ?_
  intro W base args ds gs before hval0 hW _ _ hL _
  have hval : ∀ (j : Nat) t v, Tryd.f6.params[j]? = some t → args[j]? = some v → Value.okWide Tryd.prog W .any base t v := hval0
  obtain ⟨p, q, hA, hV, hpq, hfz, hnd⟩ := id hW
  have hA0 : DataW.TrodAll enc Tryd.prog W 0 (fun _ => true) true [3, 4, 3, 21, 3] args.toList ds p := hA
  obtain ⟨v0, v1, v2, v3, v4, d0, d1, d2, d3, d4, p0, p1, p2, p3, p4, rfl, rfl, hpp, h0, h1, h2, h3, h4⟩ := Fx.trodAll_five hA0
  obtain ⟨rfl, _⟩ := trodVars_none hV
  have post : ∀ (e : Ending) (W' : World), (e = .returned (.bool true) ∧ Below W.heap.size W W') → ∃ v, e = .returned v ∧ Rows.wordsNumbersSpec.post enc Tryd.prog Tryd.f6 false true false false W #[v0, v1, v2, v3, v4] v W' := fun e W' ⟨he, hb⟩ =>
    ⟨_, he, Fx.law_post (tb := 4) laidOut (by kernel_rfl) rfl (by kernel_rfl) (by kernel_rfl) hW hb rfl rfl rfl⟩
  obtain ⟨x0, rfl, r0⟩ := Fx.i64_arg (t := 3) (by kernel_rfl) (hval 0 3 v0 rfl rfl)
  obtain ⟨x1, rfl⟩ := Fx.bool_arg (t := 4) (by kernel_rfl) (hval 1 4 v1 rfl rfl)
  obtain ⟨x2, rfl, r2⟩ := Fx.i64_arg (t := 3) (by kernel_rfl) (hval 2 3 v2 rfl rfl)
  obtain ⟨x3, rfl, r3⟩ := Fx.int_arg (t := 21) (k := .i32) (by kernel_rfl) (hval 3 21 v3 rfl rfl)
  obtain ⟨x4, rfl, r4⟩ := Fx.i64_arg (t := 3) (by kernel_rfl) (hval 4 3 v4 rfl rfl)
  exact (calls_of_gives (by kernel_rfl) (Go.Tx.wz_ok x0 x1 x2 x3 x4 ⟨r0.1, by omega⟩) W (of_laid hL)).mono post
theorem wordsNumbers_row : Rows.WordsNumbersSaid :=
  OpenClaim.holds_of_wide 6 Tryd.f6 rfl rfl rfl rfl rfl rfl rfl ⟨rfl, rfl, rfl, rfl, rfl⟩ rfl rfl rfl rfl rfl (by kernel_rfl) rfl (by kernel_rfl)
    (of_decide_eq_true (by kernel_rfl)) (by unfold Func.isWrapper; first | (rw [if_pos (by decide +kernel)]; kernel_rfl) | (rw [if_neg (by decide +kernel)]; exact ⟨rfl, rfl⟩))
    (fun os started H enc _ => wordsNumbers_lifted os started H enc)
theorem wordsNumbers_holds : Rows.WordsNumbersCardSaid :=
  Claim7.holds_tied_plain_at .later [] [.data, .data, .data, .data, .pinned] true Rows.wordsNumbersCard.stood.harness false
    wordsNumbers_row (fun _ h => by cases h) (by kernel_rfl) (fun _ h => by cases h) wordsNumbers_row_tie rfl ⟨rfl, rfl⟩ (by kernel_rfl) rfl
    (fun f fn hf hfn => by
      obtain rfl : f = 6 := Option.some.inj ((show Tryd.prog.funcNamed "gyre/gyrelaw01.WordsNumbers" = some 6 by kernel_rfl).symm.trans hf) |>.symm
      obtain rfl : fn = Tryd.f6 := (Option.some.inj ((rfl : Tryd.prog.funcs[6]? = some Tryd.f6).symm.trans hfn)).symm
      exact ⟨by kernel_rfl, fun j t ht => by
        have hm : t ∈ [3, 4, 21] := by
          have := Array.mem_of_getElem? (show (#[3, 4, 3, 21, 3] : Array TypeId)[j]? = some t from ht)
          have this : t ∈ [3, 4, 3, 21, 3] := by simpa using this
          simp only [List.mem_cons, List.not_mem_nil, or_false] at this ⊢
          grind
        have hall : ([3, 4, 21].all fun u => !Tryd.prog.wantsStandIn u) = true := by kernel_rfl
        exact (show Tryd.prog.wantsStandIn t = false by simpa using List.all_eq_true.1 hall t hm)⟩)
    (by kernel_rfl)
end Go.Proofs.YtpeepbgpcmodcaaDoor
