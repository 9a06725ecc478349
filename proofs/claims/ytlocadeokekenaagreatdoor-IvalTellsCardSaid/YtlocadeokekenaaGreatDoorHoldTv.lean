/-
  Proved: IvalTells (the law's function returns true, and the arguments read as before), for every input; each row's listed variable is tied to the program's text. Conditions: none but the row's own.
-/
import Derived.Test.YtlocadeokekenaaGreatDoorTiV
import Derived.Test.YtlocadeokekenaaGreatDoorFrm
import Derived.Test.YtlocadeokekenaaGreatDoorFrameS
import Derived.Test.YtlocadeokekenaaGreatDoorRows
import Derived.Test.YtlocadeokekenaaGreatDoorCards
import Derived.Test.YtlocadeokekenaaGreatDoorTie
import Derived.ProofKit
import Derived.LaidMore
import Derived.OpenShut
import Derived.Stop.Joined
import Derived.SevenTiedAt
set_option maxRecDepth 100000
namespace Go.Proofs.YtlocadeokekenaaGreatDoor
open Go Go.ChangeShapes Go.WideShapes Go.ChangeAt Go.RowKit Go.Sx Go.Nm
theorem own : ownKnob Tryz.prog.godebug = none := by kernel_rfl
theorem laidOut : laidOutB Tryz.prog = true := by kernel_rfl
def laidL : List (String × DataW Unit) := [("gyre/quot.least", Rows.laid_gyre_quot_least)]
theorem door_met (os : Os) (args : Array Value) : laidMetH Tryz.prog laidL ((World.doorLaid Tryz.prog 400 os).forCall (fun _ _ => 0) ⟨#[], args, []⟩).memory :=
  laidMetH_of_parts3 (fuel := 8) (laidMet_of_run' 8 (by kernel_rfl) (by kernel_rfl)) (by kernel_rfl) (by kernel_rfl)
theorem gLeast : Tryz.prog.globalNamed "gyre/quot.least" = some 0 := by kernel_rfl
theorem tLeast : (Tryz.prog.globals[0]?).map (·.type) = some 52 := by kernel_rfl
theorem of_laid {W : World} (h : laidMetH Tryz.prog laidL W) : LaidG W := by
  rw [MakeChecks.laidMetH_plain _ _ _ (by kernel_rfl)] at h
  obtain ⟨ps, ⟨g0, t0, cs0, f0, p0, q0, hg0, ht0, hv0, hd0, _, hps⟩, _, hfz⟩ := h
  obtain rfl := Option.some.inj (gLeast.symm.trans hg0)
  obtain rfl := Option.some.inj (tLeast.symm.trans ht0)
  have ua : Tryz.prog.underlying 52 = some (.array 4 50) := by kernel_rfl
  have ue : Tryz.prog.underlying 50 = some (.int .u64) := by kernel_rfl
  have c1 : Tryz.prog.cellsOf 50 = 1 := by kernel_rfl
  have c4 : Tryz.prog.cellsOf 52 = 4 := by kernel_rfl
  obtain ⟨xs, m1, rfl, hx1, hlen, hn3, hel⟩ := DataW.trod_array ua hd0
  have hcs : cs0 = #[.int .u64 0, .int .u64 0, .int .u64 0, .int .u64 9223372036854775808] := by
    have h0 := hel 0 (by decide)
    have h1 := hel 1 (by decide)
    have h2 := hel 2 (by decide)
    have h3 := hel 3 (by decide)
    rw [c4] at hlen
    rw [c1] at h0 h1 h2 h3
    obtain ⟨l⟩ := cs0
    simp only at hlen h0 h1 h2 h3 ⊢
    match l, hlen, xs, hn3, hx1, h0, h1, h2, h3 with
    | [a, b, c, d], _, [x0, x1, x2, x3], _, hx1, h0, h1, h2, h3 =>
      simp only [Prod.mk.injEq, Rows.laid_gyre_quot_least, DataW.agg.injEq, List.map_cons, List.map_nil, List.cons.injEq] at hx1
      obtain ⟨k0, e0, f0, _⟩ := DataW.trod_int ue (show DataW.trod _ Tryz.prog W 0 _ false m1 50 _ = some x0 from h0)
      obtain ⟨k1, e1, f1, _⟩ := DataW.trod_int ue (show DataW.trod _ Tryz.prog W 0 _ false m1 50 _ = some x1 from h1)
      obtain ⟨k2, e2, f2, _⟩ := DataW.trod_int ue (show DataW.trod _ Tryz.prog W 0 _ false m1 50 _ = some x2 from h2)
      obtain ⟨k3, e3, f3, _⟩ := DataW.trod_int ue (show DataW.trod _ Tryz.prog W 0 _ false m1 50 _ = some x3 from h3)
      rw [f0, f1, f2, f3] at hx1
      simp at e0 e1 e2 e3 hx1
      obtain ⟨g0, g1, g2, g3⟩ := hx1.1
      rw [e0, e1, e2, e3, ← g0, ← g1, ← g2, ← g3]
  have hmem : MemPlace.cell 0 0 ∈ ps := by
    rw [hps]
    refine List.mem_append_left _ (List.mem_append_left _ (List.mem_map.2 ⟨0, List.mem_range.2 ?_, rfl⟩))
    rw [hcs]
    decide
  intro x hx
  have hx : x = (0, (.agg #[.int .u64 0, .int .u64 0, .int .u64 0, .int .u64 9223372036854775808], 52)) := by simpa [lz] using hx
  subst hx
  have hv := hv0
  unfold World.var? at hv
  rw [gLeast] at hv
  simp only [Option.bind_some] at hv
  split at hv
  · rename_i cs ty fz hh
    simp only [Option.some.injEq] at hv
    rw [← hv] at hcs
    subst hcs
    obtain ⟨c, t, hc⟩ := (hfz 0 0 hmem).1
    refine ⟨t, ?_⟩
    rw [hh] at hc
    simp only [Option.some.injEq, Obj.cells.injEq] at hc
    rw [hh, ← hc.2.1, hc.2.2]
    rfl
  · cases hv
set_option maxRecDepth 100000 in
theorem ivalTells_lifted (os : Os) (started : os.Started) (H : Type) (enc : TypeId × Value → H) :
    ReturnsInHanded {} Tryz.checked os 3 .any (fun w args => (Rows.ivalTellsSpec.pre enc Tryz.prog Tryz.f3 [] false w args ∧ laidMetH Tryz.prog laidL w) ∧ sizedMet enc Tryz.prog Tryz.f3 (OpenSpec.ofChange Rows.ivalTellsSpec) false w args) (Rows.ivalTellsSpec.post enc Tryz.prog Tryz.f3 false true false false) := by
  refine returnsInHanded_of_change_and (C := Tryz.checked) (X := fun w _ => laidMetH Tryz.prog laidL w) (fun _ _ _ hh h => h.of_heap hh) own started (by kernel_rfl) (rfl : Tryz.prog.funcs[3]? = some Tryz.f3)
    (ChangeSpec.witness_shaped (enc := enc) (C := Tryz.checked) (os := os) (X := fun w _ => laidMetH Tryz.prog laidL w) false (World.doorLaid Tryz.prog 400 os) #[Iv.I ⟨0, 0, false⟩, Iv.I ⟨0, 0, false⟩, .int .i64 0, .int .i64 0, .slice none 0 0] 8 rfl (World.shaped_of_RefB (by kernel_rfl) (by kernel_rfl)) (by kernel_rfl) (by kernel_rfl) (by kernel_rfl) (door_met os _)) ?_
  intro W base args ds gs before hval0 hW _ _ hL _
  have hval : ∀ (j : Nat) t v, Tryz.f3.params[j]? = some t → args[j]? = some v → Value.okWide Tryz.prog W .any base t v := hval0
  obtain ⟨p, q, hA, hV, hpq, hfz, hnd⟩ := id hW
  have hA0 : DataW.TrodAll enc Tryz.prog W 0 (fun _ => true) true [23, 23, 3, 3, 24] args.toList ds p := hA
  obtain ⟨v0, v1, v2, v3, v4, d0, d1, d2, d3, d4, p0, p1, p2, p3, p4, rfl, rfl, hpp, h0, h1, h2, h3, h4⟩ := Fr.trodAll_five hA0
  obtain ⟨rfl, _⟩ := trodVars_none hV
  have post : ∀ (e : Ending) (W' : World), (e = .returned (.bool true) ∧ Below W.heap.size W W') → ∃ v, e = .returned v ∧ Rows.ivalTellsSpec.post enc Tryz.prog Tryz.f3 false true false false W #[v0, v1, v2, v3, v4] v W' := fun e W' ⟨he, hb⟩ =>
    ⟨_, he, Fr.law_post (tb := 4) laidOut (by kernel_rfl) rfl (by kernel_rfl) (by kernel_rfl) hW hb rfl rfl rfl⟩
  obtain ⟨x0, rfl, r0⟩ := Fr.ival_arg (t := 23) (u := 3) (b := 4) (by kernel_rfl) (by kernel_rfl) (by kernel_rfl) (by kernel_rfl) (by kernel_rfl) (hval 0 23 v0 rfl rfl)
  obtain ⟨x1, rfl, r1⟩ := Fr.ival_arg (t := 23) (u := 3) (b := 4) (by kernel_rfl) (by kernel_rfl) (by kernel_rfl) (by kernel_rfl) (by kernel_rfl) (hval 1 23 v1 rfl rfl)
  obtain ⟨x2, rfl, r2⟩ := Fr.i64_arg (t := 3) (by kernel_rfl) (hval 2 3 v2 rfl rfl)
  obtain ⟨x3, rfl, r3⟩ := Fr.i64_arg (t := 3) (by kernel_rfl) (hval 3 3 v3 rfl rfl)
  rcases Fr.slice_arg (t := 24) (e := 23) (sz := 3) (by kernel_rfl) (by kernel_rfl) (hval 4 24 v4 rfl rfl) h4 (fun u => ∃ a, u = Iv.I a ∧ Wd.I64 a.lo ∧ Wd.I64 a.hi) (Fr.ival_el (u := 3) (b := 4) (f0 := ⟨"Lo", 3, 0, false, "", "", 0⟩) (f1 := ⟨"Hi", 3, 1, false, "", "", 8⟩) (f2 := ⟨"Bad", 4, 2, false, "", "", 16⟩) (by kernel_rfl) rfl rfl rfl rfl rfl rfl (by kernel_rfl) (by kernel_rfl) (by kernel_rfl) (by kernel_rfl)) with hn4 | ⟨n4, el4, hm4, hs4, hg4⟩
  · subst hn4
    exact (Fr.calls_of_givesD (args := [Iv.I x0, Iv.I x1, .int .i64 x2, .int .i64 x3, .slice none 0 0]) (by kernel_rfl) (Th.IvalTells_nil x0 x1 x2 x3 r2 r3) W (of_laid hL) ⟨rfl, rfl, rfl, rfl, rfl, trivial⟩).mono post
  ·
    exact (Fr.calls_of_givesD (args := [Iv.I x0, Iv.I x1, .int .i64 x2, .int .i64 x3, v4]) (by kernel_rfl) (Th.IvalTells_row x0 x1 x2 x3 n4 (fun j => Iv.rd (el4 j)) r2 r3) W (of_laid hL) ⟨rfl, rfl, rfl, rfl, Fr.ivs_show hs4 hg4, trivial⟩).mono post
theorem ivalTells_row : Rows.IvalTellsSaid :=
  OpenClaim.holds_of_wide 3 Tryz.f3 rfl rfl rfl rfl rfl rfl rfl ⟨rfl, rfl, rfl, rfl, rfl⟩ rfl rfl rfl rfl rfl (by kernel_rfl) rfl (by kernel_rfl)
    (of_decide_eq_true (by kernel_rfl)) (by unfold Func.isWrapper; first | (rw [if_pos (by decide +kernel)]; kernel_rfl) | (rw [if_neg (by decide +kernel)]; exact ⟨rfl, rfl⟩))
    (fun os started H enc _ => ivalTells_lifted os started H enc)
theorem ivalTells_holds : Rows.IvalTellsCardSaid :=
  Claim7.holds_tied_plain_at .later [] [.data] true Rows.ivalTellsCard.stood.harness true
    ivalTells_row (fun _ h => by cases h) (by kernel_rfl) (fun _ h => by cases h) ivalTells_row_tie rfl ⟨rfl, rfl⟩ (by kernel_rfl) rfl
    (fun f fn hf hfn => by
      obtain rfl : f = 3 := Option.some.inj ((show Tryz.prog.funcNamed "gyre/gyrelaw05.IvalTells" = some 3 by kernel_rfl).symm.trans hf) |>.symm
      obtain rfl : fn = Tryz.f3 := (Option.some.inj ((rfl : Tryz.prog.funcs[3]? = some Tryz.f3).symm.trans hfn)).symm
      exact ⟨by kernel_rfl, fun j t ht => by
        have hm : t ∈ [23, 3, 24] := by
          have := Array.mem_of_getElem? (show (#[23, 23, 3, 3, 24] : Array TypeId)[j]? = some t from ht)
          simpa using this
        have hall : ([23, 3, 24].all fun u => !Tryz.prog.wantsStandIn u) = true := by kernel_rfl
        exact (show Tryz.prog.wantsStandIn t = false by simpa using List.all_eq_true.1 hall t hm)⟩)
    (by kernel_rfl)
end Go.Proofs.YtlocadeokekenaaGreatDoor
