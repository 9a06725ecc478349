/-
  Proved: HermiteStates (the law's function returns true, and the arguments read as before), for every input; each row's listed variable is tied to the program's text. Conditions: none but the row's own.
-/
import Derived.Test.YtdnpnccieabmiaaDoorHeU
import Derived.Test.YtdnpnccieabmiaaDoorFrameB
import Derived.Test.YtdnpnccieabmiaaDoorFrm
import Derived.Test.YtdnpnccieabmiaaDoorRows
import Derived.Test.YtdnpnccieabmiaaDoorCards
import Derived.Test.YtdnpnccieabmiaaDoorTie
import Derived.ProofKit
import Derived.LaidMore
import Derived.OpenShut
import Derived.Stop.Joined
import Derived.SevenTiedAt
set_option maxRecDepth 100000
namespace Go.Proofs.YtdnpnccieabmiaaDoor
open Go Go.ChangeShapes Go.WideShapes Go.ChangeAt Go.RowKit Go.Sx Go.Nm
theorem own : ownKnob Tryd.prog.godebug = none := by kernel_rfl
theorem laidOut : laidOutB Tryd.prog = true := by kernel_rfl
def laidL : List (String × DataW Unit) := [("gyre/quot.least", Rows.laid_gyre_quot_least)]
theorem door_met (os : Os) (args : Array Value) : laidMetH Tryd.prog laidL ((World.doorLaid Tryd.prog 400 os).forCall (fun _ _ => 0) ⟨#[], args, []⟩).memory :=
  laidMetH_of_parts3 (fuel := 8) (laidMet_of_run' 8 (by kernel_rfl) (by kernel_rfl)) (by kernel_rfl) (by kernel_rfl)
theorem gLeast : Tryd.prog.globalNamed "gyre/quot.least" = some 0 := by kernel_rfl
theorem tLeast : (Tryd.prog.globals[0]?).map (·.type) = some 56 := by kernel_rfl
theorem of_laid {W : World} (h : laidMetH Tryd.prog laidL W) : LaidG W := by
  rw [MakeChecks.laidMetH_plain _ _ _ (by kernel_rfl)] at h
  obtain ⟨ps, ⟨g0, t0, cs0, f0, p0, q0, hg0, ht0, hv0, hd0, _, hps⟩, _, hfz⟩ := h
  obtain rfl := Option.some.inj (gLeast.symm.trans hg0)
  obtain rfl := Option.some.inj (tLeast.symm.trans ht0)
  have ua : Tryd.prog.underlying 56 = some (.array 4 54) := by kernel_rfl
  have ue : Tryd.prog.underlying 54 = some (.int .u64) := by kernel_rfl
  have c1 : Tryd.prog.cellsOf 54 = 1 := by kernel_rfl
  have c4 : Tryd.prog.cellsOf 56 = 4 := by kernel_rfl
  obtain ⟨xs, m1, rfl, hx1, hlen, hn3, hel⟩ := DataW.trod_array ua hd0
  have hcs : cs0 = #[.int .u64 0, .int .u64 0, .int .u64 0, .int .u64 9223372036854775808] := by
    have h0 := hel 0 (by decide)
    have h1 := hel 1 (by decide)
    have h2 := hel 2 (by decide)
    have h3 := hel 3 (by decide)
    rw [c4] at hlen
    rw [c1] at h0 h1 h2 h3
    obtain ⟨l⟩ := cs0
    simp only at hlen h0 h1 h2 h3 ⊢
    match l, hlen, xs, hn3, hx1, h0, h1, h2, h3 with
    | [a, b, c, d], _, [x0, x1, x2, x3], _, hx1, h0, h1, h2, h3 =>
      simp only [Prod.mk.injEq, Rows.laid_gyre_quot_least, DataW.agg.injEq, List.map_cons, List.map_nil, List.cons.injEq] at hx1
      obtain ⟨k0, e0, f0, _⟩ := DataW.trod_int ue (show DataW.trod _ Tryd.prog W 0 _ false m1 54 _ = some x0 from h0)
      obtain ⟨k1, e1, f1, _⟩ := DataW.trod_int ue (show DataW.trod _ Tryd.prog W 0 _ false m1 54 _ = some x1 from h1)
      obtain ⟨k2, e2, f2, _⟩ := DataW.trod_int ue (show DataW.trod _ Tryd.prog W 0 _ false m1 54 _ = some x2 from h2)
      obtain ⟨k3, e3, f3, _⟩ := DataW.trod_int ue (show DataW.trod _ Tryd.prog W 0 _ false m1 54 _ = some x3 from h3)
      rw [f0, f1, f2, f3] at hx1
      simp at e0 e1 e2 e3 hx1
      obtain ⟨g0, g1, g2, g3⟩ := hx1.1
      rw [e0, e1, e2, e3, ← g0, ← g1, ← g2, ← g3]
  have hmem : MemPlace.cell 0 0 ∈ ps := by
    rw [hps]
    refine List.mem_append_left _ (List.mem_append_left _ (List.mem_map.2 ⟨0, List.mem_range.2 ?_, rfl⟩))
    rw [hcs]
    decide
  intro x hx
  have hx : x = (0, (.agg #[.int .u64 0, .int .u64 0, .int .u64 0, .int .u64 9223372036854775808], 56)) := by simpa [lz] using hx
  subst hx
  have hv := hv0
  unfold World.var? at hv
  rw [gLeast] at hv
  simp only [Option.bind_some] at hv
  split at hv
  · rename_i cs ty fz hh
    simp only [Option.some.injEq] at hv
    rw [← hv] at hcs
    subst hcs
    obtain ⟨c, t, hc⟩ := (hfz 0 0 hmem).1
    refine ⟨t, ?_⟩
    rw [hh] at hc
    simp only [Option.some.injEq, Obj.cells.injEq] at hc
    rw [hh, ← hc.2.1, hc.2.2]
    rfl
  · cases hv
set_option maxRecDepth 100000 in
theorem hermiteStates_lifted (os : Os) (started : os.Started) (H : Type) (enc : TypeId × Value → H) :
    ReturnsInHanded {} Tryd.checked os 4 .any (fun w args => (Rows.hermiteStatesSpec.pre enc Tryd.prog Tryd.f4 [] false w args ∧ laidMetH Tryd.prog laidL w) ∧ sizedMet enc Tryd.prog Tryd.f4 (OpenSpec.ofChange Rows.hermiteStatesSpec) false w args) (Rows.hermiteStatesSpec.post enc Tryd.prog Tryd.f4 false true false false) := by
  refine returnsInHanded_of_change_and (C := Tryd.checked) (X := fun w _ => laidMetH Tryd.prog laidL w) (fun _ _ _ hh h => h.of_heap hh) own started (by kernel_rfl) (rfl : Tryd.prog.funcs[4]? = some Tryd.f4)
    (ChangeSpec.witness_shaped (enc := enc) (C := Tryd.checked) (os := os) (X := fun w _ => laidMetH Tryd.prog laidL w) false (World.doorLaid Tryd.prog 400 os) #[.agg #[.int .i64 0, .slice none 0 0], .agg #[.int .i64 0, .slice none 0 0], .int .i64 0] 8 rfl (World.shaped_of_RefB (by kernel_rfl) (by kernel_rfl)) (by kernel_rfl) (by kernel_rfl) (by kernel_rfl) (door_met os _)) ?_
  intro W base args ds gs before hval0 hW _ _ hL _
  have hval : ∀ (j : Nat) t v, Tryd.f4.params[j]? = some t → args[j]? = some v → Value.okWide Tryd.prog W .any base t v := hval0
  obtain ⟨p, q, hA, hV, hpq, hfz, hnd⟩ := id hW
  have hA0 : DataW.TrodAll enc Tryd.prog W 0 (fun _ => true) true [24, 24, 3] args.toList ds p := hA
  obtain ⟨v0, v1, v2, d0, d1, d2, p0, p1, p2, rfl, rfl, hpp, h0, h1, h2⟩ := trodAll_three hA0
  obtain ⟨rfl, _⟩ := trodVars_none hV
  have post : ∀ (e : Ending) (W' : World), (e = .returned (.bool true) ∧ Below W.heap.size W W') → ∃ v, e = .returned v ∧ Rows.hermiteStatesSpec.post enc Tryd.prog Tryd.f4 false true false false W #[v0, v1, v2] v W' := fun e W' ⟨he, hb⟩ =>
    ⟨_, he, Fr.law_post (tb := 4) laidOut (by kernel_rfl) rfl (by kernel_rfl) (by kernel_rfl) hW hb rfl rfl rfl⟩
  obtain ⟨x2, rfl, r2⟩ := Fr.i64_arg (t := 3) (by kernel_rfl) (hval 2 3 v2 rfl rfl)
  obtain ⟨s0, hn0⟩ := Fr.state_arg (t := 24) (ti := 3) (ts := 22) (e := 40) (sz := 6) (f0 := ⟨"Step", 3, 0, false, "", "", 0⟩) (f1 := ⟨"B", 22, 1, false, "", "", 8⟩) (by kernel_rfl) rfl rfl rfl rfl (by kernel_rfl) (by kernel_rfl) (by kernel_rfl) (by kernel_rfl) (by kernel_rfl) (by kernel_rfl) (by kernel_rfl) (hval 0 24 v0 rfl rfl) h0 (fun u => ∃ b, u = He.Bv b) (Fr.body_el (e := 40) (u := 38) (k := 3) (f0 := ⟨"X", 38, 0, false, "", "", 0⟩) (f1 := ⟨"V", 38, 3, false, "", "", 24⟩) (by kernel_rfl) rfl rfl rfl rfl (by kernel_rfl) (by kernel_rfl) (by kernel_rfl) (by kernel_rfl))
  rcases hn0 with hn0 | ⟨n0, el0, hm0, hs0, hg0⟩
  · subst hn0
    obtain ⟨s1, hn1⟩ := Fr.state_arg (t := 24) (ti := 3) (ts := 22) (e := 40) (sz := 6) (f0 := ⟨"Step", 3, 0, false, "", "", 0⟩) (f1 := ⟨"B", 22, 1, false, "", "", 8⟩) (by kernel_rfl) rfl rfl rfl rfl (by kernel_rfl) (by kernel_rfl) (by kernel_rfl) (by kernel_rfl) (by kernel_rfl) (by kernel_rfl) (by kernel_rfl) (hval 1 24 v1 rfl rfl) h1 (fun u => ∃ b, u = He.Bv b) (Fr.body_el (e := 40) (u := 38) (k := 3) (f0 := ⟨"X", 38, 0, false, "", "", 0⟩) (f1 := ⟨"V", 38, 3, false, "", "", 24⟩) (by kernel_rfl) rfl rfl rfl rfl (by kernel_rfl) (by kernel_rfl) (by kernel_rfl) (by kernel_rfl))
    rcases hn1 with hn1 | ⟨n1, el1, hm1, hs1, hg1⟩
    · subst hn1
      exact (Fr.calls_of_givesD (args := [.agg #[.int .i64 s0, .slice none 0 0], .agg #[.int .i64 s1, .slice none 0 0], .int .i64 x2]) (by kernel_rfl) (He.HermiteStates_nilnil s0 s1 x2) W (of_laid hL) ⟨rfl, rfl, rfl, trivial⟩).mono post
    ·
      exact (Fr.calls_of_givesD (args := [.agg #[.int .i64 s0, .slice none 0 0], v1, .int .i64 x2]) (by kernel_rfl) (He.HermiteStates_nilrow s0 s1 x2 n1 (fun j => He.rdB (el1 j))) W (of_laid hL) ⟨rfl, Fr.st_show hs1 hg1, rfl, trivial⟩).mono post
  ·
    obtain ⟨s1, hn1⟩ := Fr.state_arg (t := 24) (ti := 3) (ts := 22) (e := 40) (sz := 6) (f0 := ⟨"Step", 3, 0, false, "", "", 0⟩) (f1 := ⟨"B", 22, 1, false, "", "", 8⟩) (by kernel_rfl) rfl rfl rfl rfl (by kernel_rfl) (by kernel_rfl) (by kernel_rfl) (by kernel_rfl) (by kernel_rfl) (by kernel_rfl) (by kernel_rfl) (hval 1 24 v1 rfl rfl) h1 (fun u => ∃ b, u = He.Bv b) (Fr.body_el (e := 40) (u := 38) (k := 3) (f0 := ⟨"X", 38, 0, false, "", "", 0⟩) (f1 := ⟨"V", 38, 3, false, "", "", 24⟩) (by kernel_rfl) rfl rfl rfl rfl (by kernel_rfl) (by kernel_rfl) (by kernel_rfl) (by kernel_rfl))
    rcases hn1 with hn1 | ⟨n1, el1, hm1, hs1, hg1⟩
    · subst hn1
      exact (Fr.calls_of_givesD (args := [v0, .agg #[.int .i64 s1, .slice none 0 0], .int .i64 x2]) (by kernel_rfl) (He.HermiteStates_rownil s0 s1 x2 n0 (fun j => He.rdB (el0 j))) W (of_laid hL) ⟨Fr.st_show hs0 hg0, rfl, rfl, trivial⟩).mono post
    ·
      exact (Fr.calls_of_givesD (args := [v0, v1, .int .i64 x2]) (by kernel_rfl) (He.HermiteStates_rowrow s0 s1 x2 n0 n1 (fun j => He.rdB (el0 j)) (fun j => He.rdB (el1 j))) W (of_laid hL) ⟨Fr.st_show hs0 hg0, Fr.st_show hs1 hg1, rfl, trivial⟩).mono post
theorem hermiteStates_row : Rows.HermiteStatesSaid :=
  OpenClaim.holds_of_wide 4 Tryd.f4 rfl rfl rfl rfl rfl rfl rfl ⟨rfl, rfl, rfl, rfl, rfl⟩ rfl rfl rfl rfl rfl (by kernel_rfl) rfl (by kernel_rfl)
    (of_decide_eq_true (by kernel_rfl)) (by unfold Func.isWrapper; first | (rw [if_pos (by decide +kernel)]; kernel_rfl) | (rw [if_neg (by decide +kernel)]; exact ⟨rfl, rfl⟩))
    (fun os started H enc _ => hermiteStates_lifted os started H enc)
theorem hermiteStates_holds : Rows.HermiteStatesCardSaid :=
  Claim7.holds_tied_plain_at .later [] [.data] true Rows.hermiteStatesCard.stood.harness true
    hermiteStates_row (fun _ h => by cases h) (by kernel_rfl) (fun _ h => by cases h) hermiteStates_row_tie rfl ⟨rfl, rfl⟩ (by kernel_rfl) rfl
    (fun f fn hf hfn => by
      obtain rfl : f = 4 := Option.some.inj ((show Tryd.prog.funcNamed "gyre/gyrelaw28.HermiteStates" = some 4 by kernel_rfl).symm.trans hf) |>.symm
      obtain rfl : fn = Tryd.f4 := (Option.some.inj ((rfl : Tryd.prog.funcs[4]? = some Tryd.f4).symm.trans hfn)).symm
      exact ⟨by kernel_rfl, fun j t ht => by
        have hm : t ∈ [24, 3] := by
          have := Array.mem_of_getElem? (show (#[24, 24, 3] : Array TypeId)[j]? = some t from ht)
          have this : t ∈ [24, 24, 3] := by simpa using this
          simp only [List.mem_cons, List.not_mem_nil, or_false] at this ⊢
          grind
        have hall : ([24, 3].all fun u => !Tryd.prog.wantsStandIn u) = true := by kernel_rfl
        exact (show Tryd.prog.wantsStandIn t = false by simpa using List.all_eq_true.1 hall t hm)⟩)
    (by kernel_rfl)
end Go.Proofs.YtdnpnccieabmiaaDoor
