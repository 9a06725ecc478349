/-
  Proved: WordsBlanks (the law's function returns true, and the arguments read as before), for every input; the row's listed variables are tied to the program's text. Conditions: none but the row's own.
-/
import Derived.Test.YtpeepbgpcmodcaaDoorTxY
import Derived.Test.YtpeepbgpcmodcaaDoorHoldXx
import Derived.Test.YtpeepbgpcmodcaaDoorCards
import Derived.Test.YtpeepbgpcmodcaaDoorTie
import Derived.SevenTiedAt
set_option maxRecDepth 100000
namespace Go.Proofs.YtpeepbgpcmodcaaDoor
open Go Go.ChangeShapes Go.WideShapes Go.ChangeAt Go.RowKit Go.Sx
set_option maxRecDepth 100000 in
theorem wordsBlanks_lifted (os : Os) (started : os.Started) (H : Type) (enc : TypeId × Value → H) :
    ReturnsInHanded {} Tryd.checked os 7 .any (fun w args => (Rows.wordsBlanksSpec.pre enc Tryd.prog Tryd.f7 [] false w args ∧ laidMetH Tryd.prog laidL w) ∧ sizedMet enc Tryd.prog Tryd.f7 (OpenSpec.ofChange Rows.wordsBlanksSpec) false w args) (Rows.wordsBlanksSpec.post enc Tryd.prog Tryd.f7 false true false false) := by
  refine returnsInHanded_of_change_and (C := Tryd.checked) (X := fun w _ => laidMetH Tryd.prog laidL w) (fun _ _ _ hh h => h.of_heap hh) own started (by kernel_rfl) (rfl : Tryd.prog.funcs[7]? = some Tryd.f7)
    (ChangeSpec.witness_shaped (enc := enc) (C := Tryd.checked) (os := os) (X := fun w _ => laidMetH Tryd.prog laidL w) false (World.laidAll Tryd.prog os laidL) #[.slice none 0 0, .slice none 0 0] 8 (World.laidAll_os _ _ _) (World.shaped_of_ZipB (by kernel_rfl) (by kernel_rfl)) (by kernel_rfl) (by kernel_rfl) (by kernel_rfl) (laid_met os _)) ?_
  intro W base args ds gs before hval0 hW _ _ hL _
  have hval : ∀ (j : Nat) t v, Tryd.f7.params[j]? = some t → args[j]? = some v → Value.okWide Tryd.prog W .any base t v := hval0
  obtain ⟨p, q, hA, hV, hpq, hfz, hnd⟩ := id hW
  have hA0 : DataW.TrodAll enc Tryd.prog W 0 (fun _ => true) true [22, 45] args.toList ds p := hA
  obtain ⟨v0, v1, d0, d1, p0, p1, rfl, rfl, hpp, h0, h1⟩ := trodAll_two hA0
  obtain ⟨rfl, _⟩ := trodVars_none hV
  have post : ∀ (e : Ending) (W' : World), (e = .returned (.bool true) ∧ Below W.heap.size W W') → ∃ v, e = .returned v ∧ Rows.wordsBlanksSpec.post enc Tryd.prog Tryd.f7 false true false false W #[v0, v1] v W' := fun e W' ⟨he, hb⟩ =>
    ⟨_, he, Fx.law_post (tb := 4) laidOut (by kernel_rfl) rfl (by kernel_rfl) (by kernel_rfl) hW hb rfl rfl rfl⟩
  rcases Fx.slice_arg (t := 22) (e := 9) (sz := 1) (by kernel_rfl) (by kernel_rfl) (hval 0 22 v0 rfl rfl) h0 (fun u => ∃ s, u = .string s) (Fx.str_el (by kernel_rfl)) with hn0 | ⟨n0, el0, hm0, hs0, hg0⟩
  · subst hn0
    rcases Fx.slice_arg (t := 45) (e := 3) (sz := 1) (by kernel_rfl) (by kernel_rfl) (hval 1 45 v1 rfl rfl) h1 (fun u => ∃ n, u = .int .i64 n ∧ (-9223372036854775808 ≤ n ∧ n ≤ 9223372036854775807)) (Fx.int_el (by kernel_rfl)) with hn1 | ⟨n1, el1, hm1, hs1, hg1⟩
    · subst hn1
      exact (Fx.calls_of_givesD (args := [.slice none 0 0, .slice none 0 0]) (by kernel_rfl) (Go.Tx.yr_nil_nz) W (of_laid hL) ⟨rfl, rfl, trivial⟩).mono post
    ·
      exact (Fx.calls_of_givesD (args := [.slice none 0 0, v1]) (by kernel_rfl) (Go.Tx.yr_nr n1 (fun j => Fx.intOf (el1 j))) W (of_laid hL) ⟨rfl, Fx.ints_show hs1 hg1, trivial⟩).mono post
  ·
    rcases Fx.slice_arg (t := 45) (e := 3) (sz := 1) (by kernel_rfl) (by kernel_rfl) (hval 1 45 v1 rfl rfl) h1 (fun u => ∃ n, u = .int .i64 n ∧ (-9223372036854775808 ≤ n ∧ n ≤ 9223372036854775807)) (Fx.int_el (by kernel_rfl)) with hn1 | ⟨n1, el1, hm1, hs1, hg1⟩
    · subst hn1
      exact (Fx.calls_of_givesD (args := [v0, .slice none 0 0]) (by kernel_rfl) (Go.Tx.yr_rn n0 (fun j => Fx.strOf (el0 j))) W (of_laid hL) ⟨Fx.strs_show hs0 hg0, rfl, trivial⟩).mono post
    ·
      exact (Fx.calls_of_givesD (args := [v0, v1]) (by kernel_rfl) (Go.Tx.yr_rr n0 (fun j => Fx.strOf (el0 j)) n1 (fun j => Fx.intOf (el1 j))) W (of_laid hL) ⟨Fx.strs_show hs0 hg0, Fx.ints_show hs1 hg1, trivial⟩).mono post
theorem wordsBlanks_row : Rows.WordsBlanksSaid :=
  OpenClaim.holds_of_wide 7 Tryd.f7 rfl rfl rfl rfl rfl rfl rfl ⟨rfl, rfl, rfl, rfl, rfl⟩ rfl rfl rfl rfl rfl (by kernel_rfl) rfl (by kernel_rfl)
    (of_decide_eq_true (by kernel_rfl)) (by unfold Func.isWrapper; first | (rw [if_pos (by decide +kernel)]; kernel_rfl) | (rw [if_neg (by decide +kernel)]; exact ⟨rfl, rfl⟩))
    (fun os started H enc _ => wordsBlanks_lifted os started H enc)
theorem wordsBlanks_holds : Rows.WordsBlanksCardSaid :=
  Claim7.holds_tied_plain_at .later [] [.data, .data, .data, .data, .pinned] true Rows.wordsBlanksCard.stood.harness false
    wordsBlanks_row (fun _ h => by cases h) (by kernel_rfl) (fun _ h => by cases h) wordsBlanks_row_tie rfl ⟨rfl, rfl⟩ (by kernel_rfl) rfl
    (fun f fn hf hfn => by
      obtain rfl : f = 7 := Option.some.inj ((show Tryd.prog.funcNamed "gyre/gyrelaw01.WordsBlanks" = some 7 by kernel_rfl).symm.trans hf) |>.symm
      obtain rfl : fn = Tryd.f7 := (Option.some.inj ((rfl : Tryd.prog.funcs[7]? = some Tryd.f7).symm.trans hfn)).symm
      exact ⟨by kernel_rfl, fun j t ht => by
        have hm : t ∈ [22, 45] := by
          have := Array.mem_of_getElem? (show (#[22, 45] : Array TypeId)[j]? = some t from ht)
          have this : t ∈ [22, 45] := by simpa using this
          simp only [List.mem_cons, List.not_mem_nil, or_false] at this ⊢
          grind
        have hall : ([22, 45].all fun u => !Tryd.prog.wantsStandIn u) = true := by kernel_rfl
        exact (show Tryd.prog.wantsStandIn t = false by simpa using List.all_eq_true.1 hall t hm)⟩)
    (by kernel_rfl)
end Go.Proofs.YtpeepbgpcmodcaaDoor
