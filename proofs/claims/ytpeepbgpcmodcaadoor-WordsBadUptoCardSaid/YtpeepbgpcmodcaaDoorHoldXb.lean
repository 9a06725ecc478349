/-
  Proved: WordsBad, of texts of bulk at most 1048576 (the law's function returns true, and the arguments read as before); the row's listed variables are tied to the program's text. Conditions: none but the row's own.
-/
import Derived.Test.YtpeepbgpcmodcaaDoorTxX
import Derived.Test.YtpeepbgpcmodcaaDoorHoldXx
import Derived.Test.YtpeepbgpcmodcaaDoorCards
import Derived.Test.YtpeepbgpcmodcaaDoorTie
import Derived.SevenTiedAt
import Derived.Deep.DeepHandedRow
set_option maxRecDepth 100000
namespace Go.Proofs.YtpeepbgpcmodcaaDoor
open Go Go.ChangeShapes Go.WideShapes Go.ChangeAt Go.RowKit Go.Sx
theorem wordsBadUpto_reads (os : Os) {H : Type} (enc : TypeId × Value → H) : ∃ places, DataW.whole enc Tryd.prog ((World.laidAll Tryd.prog os laidL).forCall (fun _ _ => 0) ⟨#[], #[.string ⟨#[]⟩, .string ⟨#[]⟩, .int .i64 0], []⟩).memory Tryd.f5.params.toList Rows.wordsBadSpec.vars false (#[.string ⟨#[]⟩, .string ⟨#[]⟩, .int .i64 0] : Array Value).toList 8 = some ([.lit (.string []), .lit (.string []), .lit (.int .i64 0)], [], places) :=
  ⟨[], by kernel_rfl⟩
set_option maxRecDepth 100000 in
theorem wordsBadUpto_lifted (os : Os) (started : os.Started) (H : Type) (enc : TypeId × Value → H) (F : Stop.Interp) :
    ReturnsInHanded {} Tryd.checked os 5 .any ((Rows.OpenSpec.upto Rows.wordsBadSpec).preRow enc Tryd.prog Tryd.f5 Rows.wordsBadUptoRow.domain false Rows.wordsBadUptoRow.laid) (((Rows.OpenSpec.upto Rows.wordsBadSpec).at F).post enc Tryd.prog Tryd.f5 false true false false) := by
  obtain ⟨places, hx⟩ := wordsBadUpto_reads os enc
  refine returnsInHanded_of_row (C := Tryd.checked) (s := Rows.OpenSpec.upto Rows.wordsBadSpec) own started (by kernel_rfl) (rfl : Tryd.prog.funcs[5]? = some Tryd.f5)
    (witness_row_at (enc := enc) (C := Tryd.checked) false (World.laidAll Tryd.prog os laidL) #[.string ⟨#[]⟩, .string ⟨#[]⟩, .int .i64 0] (World.laidAll_os _ _ _) (by kernel_rfl) (by kernel_rfl) (by kernel_rfl)
      (OpenSpec.preRow_of_cond 8 hx (by kernel_rfl) (fun k hk => by cases hk; kernel_rfl) (by kernel_rfl) (laid_met0 os _))) ?_
  intro W base args ds gs before hval0 hW _ hcond _ hL _ _
  have hk := hcond _ rfl
  have hval : ∀ (j : Nat) t v, Tryd.f5.params[j]? = some t → args[j]? = some v → Value.okWide Tryd.prog W .any base t v := hval0
  obtain ⟨p, q, hA, hV, hpq, hfz, hnd⟩ := id hW
  have hA0 : DataW.TrodAll enc Tryd.prog W 0 (fun _ => true) true [9, 9, 3] args.toList ds p := hA
  obtain ⟨v0, v1, v2, d0, d1, d2, p0, p1, p2, rfl, rfl, hpp, h0, h1, h2⟩ := trodAll_three hA0
  obtain ⟨rfl, _⟩ := trodVars_none hV
  have post : ∀ (e : Ending) (W' : World), (e = .returned (.bool true) ∧ Below W.heap.size W W') → ∃ v, e = .returned v ∧ Rows.wordsBadSpec.post enc Tryd.prog Tryd.f5 false true false false W #[v0, v1, v2] v W' := fun e W' ⟨he, hb⟩ =>
    ⟨_, he, Fx.law_post (tb := 4) laidOut (by kernel_rfl) rfl (by kernel_rfl) (by kernel_rfl) hW hb rfl rfl rfl⟩
  obtain ⟨x0, rfl⟩ := Fx.str_arg (t := 9) (by kernel_rfl) (hval 0 9 v0 rfl rfl)
  obtain ⟨x1, rfl⟩ := Fx.str_arg (t := 9) (by kernel_rfl) (hval 1 9 v1 rfl rfl)
  obtain ⟨x2, rfl, r2⟩ := Fx.i64_arg (t := 3) (by kernel_rfl) (hval 2 3 v2 rfl rfl)
  obtain ⟨fu, hf⟩ := id h0
  obtain ⟨s0, e0, e1, _⟩ := DataW.trod_string (show Tryd.prog.underlying 9 = some .string by kernel_rfl) hf
  have hsz : x0.size ≤ 1048576 := by
    simp only [Prod.mk.injEq] at e1
    have e0 : [Value.string x0] = [Value.string s0] := e0
    have es : x0 = s0 := Value.string.inj (List.cons.inj e0).1
    have hb : Rows.uptoBulkAll ([d0, d1, d2] ++ []) ≤ 1048576 := of_decide_eq_true hk
    rw [e1.1, ← es] at hb
    have hb : (x0.data.toList.length + 1) + (Rows.uptoBulk d1 + (Rows.uptoBulk d2 + 0)) ≤ 1048576 := hb
    have : x0.data.toList.length = x0.size := Array.length_toList
    omega
  exact (calls_of_gives (by kernel_rfl) (Go.Tx.wx_all x0 x1 x2 hsz) W (of_laid hL)).mono post
theorem wordsBadUpto_row : Rows.WordsBadUptoSaid :=
  OpenClaim.holds_of_cond 5 Tryd.f5 rfl rfl rfl rfl rfl rfl rfl ⟨rfl, rfl, rfl, rfl, rfl⟩ rfl rfl rfl rfl rfl (by kernel_rfl) rfl (by kernel_rfl)
    (of_decide_eq_true (by kernel_rfl)) (by unfold Func.isWrapper; first | (rw [if_pos (by decide +kernel)]; kernel_rfl) | (rw [if_neg (by decide +kernel)]; exact ⟨rfl, rfl⟩))
    (fun os started H enc _ F => by rw [OpenClaim.pre_eq_preRow]; exact wordsBadUpto_lifted os started H enc F)
theorem wordsBadUpto_holds : Rows.WordsBadUptoCardSaid :=
  Claim7.holds_tied_plain_at .later [] [.data, .data, .data, .data, .pinned] true Rows.wordsBadUptoCard.stood.harness false
    wordsBadUpto_row (fun _ h => by cases h) (by kernel_rfl) (fun _ h => by cases h) wordsBadUpto_row_tie rfl ⟨rfl, rfl⟩ (by kernel_rfl) rfl
    (fun f fn hf hfn => by
      obtain rfl : f = 5 := Option.some.inj ((show Tryd.prog.funcNamed "gyre/gyrelaw01.WordsBad" = some 5 by kernel_rfl).symm.trans hf) |>.symm
      obtain rfl : fn = Tryd.f5 := (Option.some.inj ((rfl : Tryd.prog.funcs[5]? = some Tryd.f5).symm.trans hfn)).symm
      exact ⟨by kernel_rfl, fun j t ht => by
        have hm : t ∈ [9, 3] := by
          have := Array.mem_of_getElem? (show (#[9, 9, 3] : Array TypeId)[j]? = some t from ht)
          have this : t ∈ [9, 9, 3] := by simpa using this
          simp only [List.mem_cons, List.not_mem_nil, or_false] at this ⊢
          grind
        have hall : ([9, 3].all fun u => !Tryd.prog.wantsStandIn u) = true := by kernel_rfl
        exact (show Tryd.prog.wantsStandIn t = false by simpa using List.all_eq_true.1 hall t hm)⟩)
    (by kernel_rfl)
end Go.Proofs.YtpeepbgpcmodcaaDoor
