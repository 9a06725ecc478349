/-
 Proved: OrbitTells (the law's function returns true, and the arguments read as before), for every input; each row's listed variable is tied to the program's text. Conditions: none but the row's own.
-/
import Derived.Test.YtekplphjbngabaaGreatDoorOrU
import Derived.Test.YtekplphjbngabaaGreatDoorFrameS
import Derived.Test.YtekplphjbngabaaGreatDoorFrm
import Derived.Test.YtekplphjbngabaaGreatDoorRows
import Derived.Test.YtekplphjbngabaaGreatDoorCards
import Derived.Test.YtekplphjbngabaaGreatDoorTie
import Derived.ProofKit
import Derived.LaidMore
import Derived.OpenShut
import Derived.Stop.Joined
import Derived.SevenTiedAt
set_option maxRecDepth 100000
namespace Go.Proofs.YtekplphjbngabaaGreatDoor
open Go Go.ChangeShapes Go.WideShapes Go.ChangeAt Go.RowKit Go.Sx Go.Nm
theorem own : ownKnob Tryz.prog.godebug = none := by kernel_rfl
theorem laidOut : laidOutB Tryz.prog = true := by kernel_rfl
def laidL : List (String × DataW Unit) := [("gyre/quot.least", Rows.laid_gyre_quot_least), ("gyre/orbit.bad", Rows.laid_gyre_orbit_bad)]
theorem door_met (os : Os) (args : Array Value) : laidMetH Tryz.prog laidL ((World.doorLaid Tryz.prog 400 os).forCall (fun _ _ => 0) ⟨#[], args, []⟩).memory :=
 laidMetH_of_parts3 (fuel := 8) (laidMet_of_run' 8 (by kernel_rfl) (by kernel_rfl)) (by kernel_rfl) (by kernel_rfl)
theorem gLeast : Tryz.prog.globalNamed "gyre/quot.least" = some 1 := by kernel_rfl
theorem tLeast : (Tryz.prog.globals[1]?).map (·.type) = some 75 := by kernel_rfl
theorem gBad : Tryz.prog.globalNamed "gyre/orbit.bad" = some 0 := by kernel_rfl
theorem tBad : (Tryz.prog.globals[0]?).map (·.type) = some 23 := by kernel_rfl
theorem of_laid {W : World} (h : laidMetH Tryz.prog laidL W) : LaidG W := by
 rw [MakeChecks.laidMetH_plain _ _ _ (by kernel_rfl)] at h
 obtain ⟨ps, ⟨g0, t0, cs0, f0, p0, q0, hg0, ht0, hv0, hd0, ⟨g1, t1, cs1, f1, p1, q1, hg1, ht1, hv1, hd1, _, hps1⟩, hps⟩, _, hfz⟩ := h
 obtain rfl := Option.some.inj (gBad.symm.trans hg1)
 obtain rfl := Option.some.inj (tBad.symm.trans ht1)
 obtain rfl := Option.some.inj (gLeast.symm.trans hg0)
 obtain rfl := Option.some.inj (tLeast.symm.trans ht0)
 have ua : Tryz.prog.underlying 75 = some (.array 4 73) := by kernel_rfl
 have ue : Tryz.prog.underlying 73 = some (.int .u64) := by kernel_rfl
 have c1 : Tryz.prog.cellsOf 73 = 1 := by kernel_rfl
 have c4 : Tryz.prog.cellsOf 75 = 4 := by kernel_rfl
 obtain ⟨xs, m1, rfl, hx1, hlen, hn3, hel⟩ := DataW.trod_array ua hd0
 have hcs : cs0 = #[.int .u64 0, .int .u64 0, .int .u64 0, .int .u64 9223372036854775808] := by
  have h0 := hel 0 (by decide)
  have h1 := hel 1 (by decide)
  have h2 := hel 2 (by decide)
  have h3 := hel 3 (by decide)
  rw [c4] at hlen
  rw [c1] at h0 h1 h2 h3
  obtain ⟨l⟩ := cs0
  simp only at hlen h0 h1 h2 h3 ⊢
  match l, hlen, xs, hn3, hx1, h0, h1, h2, h3 with
  | [a, b, c, d], _, [x0, x1, x2, x3], _, hx1, h0, h1, h2, h3 =>
   simp only [Prod.mk.injEq, Rows.laid_gyre_quot_least, DataW.agg.injEq, List.map_cons, List.map_nil, List.cons.injEq] at hx1
   obtain ⟨k0, e0, f0, _⟩ := DataW.trod_int ue (show DataW.trod _ Tryz.prog W 0 _ false m1 73 _ = some x0 from h0)
   obtain ⟨k1, e1, f1, _⟩ := DataW.trod_int ue (show DataW.trod _ Tryz.prog W 0 _ false m1 73 _ = some x1 from h1)
   obtain ⟨k2, e2, f2, _⟩ := DataW.trod_int ue (show DataW.trod _ Tryz.prog W 0 _ false m1 73 _ = some x2 from h2)
   obtain ⟨k3, e3, f3, _⟩ := DataW.trod_int ue (show DataW.trod _ Tryz.prog W 0 _ false m1 73 _ = some x3 from h3)
   rw [f0, f1, f2, f3] at hx1
   simp at e0 e1 e2 e3 hx1
   obtain ⟨g0, g1, g2, g3⟩ := hx1.1
   rw [e0, e1, e2, e3, ← g0, ← g1, ← g2, ← g3]
 have hmem : MemPlace.cell 1 0 ∈ ps := by
  rw [hps]
  refine List.mem_append_left _ (List.mem_append_left _ (List.mem_map.2 ⟨0, List.mem_range.2 ?_, rfl⟩))
  rw [hcs]
  decide
 have hcs1 : cs1 = #[.int .i64 0, .int .i64 0, .bool true] := by
  obtain ⟨xs, m2, _, hx, hlen, hn3, hel⟩ := DataW.trod_struct (fs := #[⟨"Lo", 3, 0, false, "", "", 0⟩, ⟨"Hi", 3, 1, false, "", "", 8⟩, ⟨"Bad", 4, 2, false, "", "", 16⟩]) (by kernel_rfl) hd1
  have c3 : Tryz.prog.cellsOf 23 = 3 := by kernel_rfl
  have ci : Tryz.prog.cellsOf 3 = 1 := by kernel_rfl
  have cb : Tryz.prog.cellsOf 4 = 1 := by kernel_rfl
  have ui : Tryz.prog.underlying 3 = some (.int .i64) := by kernel_rfl
  have ub : Tryz.prog.underlying 4 = some .bool := by kernel_rfl
  have h0 : DataW.trod _ Tryz.prog W 0 _ false m2 3 ((cs1.toList.drop 0).take (Tryz.prog.cellsOf 3)) = xs[0]? := hel 0 ⟨"Lo", 3, 0, false, "", "", 0⟩ rfl
  have h1 : DataW.trod _ Tryz.prog W 0 _ false m2 3 ((cs1.toList.drop 1).take (Tryz.prog.cellsOf 3)) = xs[1]? := hel 1 ⟨"Hi", 3, 1, false, "", "", 8⟩ rfl
  have h2 : DataW.trod _ Tryz.prog W 0 _ false m2 4 ((cs1.toList.drop 2).take (Tryz.prog.cellsOf 4)) = xs[2]? := hel 2 ⟨"Bad", 4, 2, false, "", "", 16⟩ rfl
  rw [c3] at hlen
  rw [ci] at h0 h1
  rw [cb] at h2
  obtain ⟨l⟩ := cs1
  simp only at hlen h0 h1 h2 ⊢
  have hn3 : xs.length = 3 := hn3
  match l, hlen, xs, hn3, hx, h0, h1, h2 with
  | [a, b, c], _, [x0, x1, x2], _, hx, h0, h1, h2 =>
   simp only [Prod.mk.injEq, Rows.laid_gyre_orbit_bad, DataW.agg.injEq, List.map_cons, List.map_nil, List.cons.injEq] at hx
   obtain ⟨k0, e0, f0, _⟩ := DataW.trod_int ui (show DataW.trod _ Tryz.prog W 0 _ false m2 3 _ = some x0 from h0)
   obtain ⟨k1, e1, f1, _⟩ := DataW.trod_int ui (show DataW.trod _ Tryz.prog W 0 _ false m2 3 _ = some x1 from h1)
   obtain ⟨k2, e2, f2⟩ := DataW.trod_bool ub (show DataW.trod _ Tryz.prog W 0 _ false m2 4 _ = some x2 from h2)
   rw [f0, f1, f2] at hx
   simp at e0 e1 e2 hx
   obtain ⟨g0, g1, g2⟩ := hx.1
   rw [e0, e1, e2, ← g0, ← g1, ← g2]
 have hmem1 : MemPlace.cell 0 0 ∈ ps := by
  rw [hps, hps1]
  refine List.mem_append_right _ (List.mem_append_left _ (List.mem_append_left _ (List.mem_map.2 ⟨0, List.mem_range.2 ?_, rfl⟩)))
  rw [hcs1]
  decide
 intro x hx
 have hx : x = (0, (.agg #[.int .i64 0, .int .i64 0, .bool true], 23)) ∨ x = (1, (.agg #[.int .u64 0, .int .u64 0, .int .u64 0, .int .u64 9223372036854775808], 75)) := by simpa [lz] using hx
 rcases hx with hx | hx
 · subst hx
   have hv := hv1
   unfold World.var? at hv
   rw [gBad] at hv
   simp only [Option.bind_some] at hv
   split at hv
   · rename_i cs ty fz hh
     simp only [Option.some.injEq] at hv
     rw [← hv] at hcs1
     subst hcs1
     obtain ⟨c, t, hc⟩ := (hfz 0 0 hmem1).1
     refine ⟨t, ?_⟩
     rw [hh] at hc
     simp only [Option.some.injEq, Obj.cells.injEq] at hc
     rw [hh, ← hc.2.1, hc.2.2]
     rfl
   · cases hv
 · subst hx
   have hv := hv0
   unfold World.var? at hv
   rw [gLeast] at hv
   simp only [Option.bind_some] at hv
   split at hv
   · rename_i cs ty fz hh
     simp only [Option.some.injEq] at hv
     rw [← hv] at hcs
     subst hcs
     obtain ⟨c, t, hc⟩ := (hfz 1 0 hmem).1
     refine ⟨t, ?_⟩
     rw [hh] at hc
     simp only [Option.some.injEq, Obj.cells.injEq] at hc
     rw [hh, ← hc.2.1, hc.2.2]
     rfl
   · cases hv
set_option maxRecDepth 100000 in
theorem orbitTells_lifted (os : Os) (started : os.Started) (H : Type) (enc : TypeId × Value → H) :
 ReturnsInHanded {} Tryz.checked os 3 .any (fun w args => (Rows.orbitTellsSpec.pre enc Tryz.prog Tryz.f3 [] false w args ∧ laidMetH Tryz.prog laidL w) ∧ sizedMet enc Tryz.prog Tryz.f3 (OpenSpec.ofChange Rows.orbitTellsSpec) false w args) (Rows.orbitTellsSpec.post enc Tryz.prog Tryz.f3 false true false false) := by
 refine returnsInHanded_of_change_and (C := Tryz.checked) (X := fun w _ => laidMetH Tryz.prog laidL w) (fun _ _ _ hh h => h.of_heap hh) own started (by kernel_rfl) (rfl : Tryz.prog.funcs[3]? = some Tryz.f3)
  (ChangeSpec.witness_shaped (enc := enc) (C := Tryz.checked) (os := os) (X := fun w _ => laidMetH Tryz.prog laidL w) false (World.doorLaid Tryz.prog 400 os) #[.int .i64 0, .int .i64 0, .int .i64 0, Iv.I ⟨0, 0, false⟩, .slice none 0 0] 8 rfl (World.shaped_of_RefB (by kernel_rfl) (by kernel_rfl)) (by kernel_rfl) (by kernel_rfl) (by kernel_rfl) (door_met os _)) ?_
 intro W base args ds gs before hval0 hW _ _ hL _
 have hval : ∀ (j : Nat) t v, Tryz.f3.params[j]? = some t → args[j]? = some v → Value.okWide Tryz.prog W .any base t v := hval0
 obtain ⟨p, q, hA, hV, hpq, hfz, hnd⟩ := id hW
 have hA0 : DataW.TrodAll enc Tryz.prog W 0 (fun _ => true) true [3, 3, 3, 23, 24] args.toList ds p := hA
 obtain ⟨v0, v1, v2, v3, v4, d0, d1, d2, d3, d4, p0, p1, p2, p3, p4, rfl, rfl, hpp, h0, h1, h2, h3, h4⟩ := Fr.trodAll_five hA0
 obtain ⟨rfl, _⟩ := trodVars_none hV
 have post : ∀ (e : Ending) (W' : World), (e = .returned (.bool true) ∧ Below W.heap.size W W') → ∃ v, e = .returned v ∧ Rows.orbitTellsSpec.post enc Tryz.prog Tryz.f3 false true false false W #[v0, v1, v2, v3, v4] v W' := fun e W' ⟨he, hb⟩ =>
  ⟨_, he, Fr.law_post (tb := 4) laidOut (by kernel_rfl) rfl (by kernel_rfl) (by kernel_rfl) hW hb rfl rfl rfl⟩
 obtain ⟨x0, rfl, r0⟩ := Fr.i64_arg (t := 3) (by kernel_rfl) (hval 0 3 v0 rfl rfl)
 obtain ⟨x1, rfl, r1⟩ := Fr.i64_arg (t := 3) (by kernel_rfl) (hval 1 3 v1 rfl rfl)
 obtain ⟨x2, rfl, r2⟩ := Fr.i64_arg (t := 3) (by kernel_rfl) (hval 2 3 v2 rfl rfl)
 obtain ⟨x3, rfl, r3⟩ := Fr.ival_arg (t := 23) (u := 3) (b := 4) (by kernel_rfl) (by kernel_rfl) (by kernel_rfl) (by kernel_rfl) (by kernel_rfl) (hval 3 23 v3 rfl rfl)
 rcases Fr.slice_arg (t := 24) (e := 3) (sz := 1) (by kernel_rfl) (by kernel_rfl) (hval 4 24 v4 rfl rfl) h4 (fun u => ∃ n, u = .int .i64 n ∧ Wd.I64 n) (Fr.int_el (by kernel_rfl)) with hn4 | ⟨n4, el4, hm4, hs4, hg4⟩
 · subst hn4
   exact (Fr.calls_of_givesD (args := [.int .i64 x0, .int .i64 x1, .int .i64 x2, Iv.I x3, .slice none 0 0]) (by kernel_rfl) (Or.ot_nil x0 x1 x2 x3 r0 r1 r2) W (of_laid hL) ⟨rfl, rfl, rfl, rfl, rfl, trivial⟩).mono post
 ·
  exact (Fr.calls_of_givesD (args := [.int .i64 x0, .int .i64 x1, .int .i64 x2, Iv.I x3, v4]) (by kernel_rfl) (Or.OrbitTells_all x0 x1 x2 x3 n4 (fun j => Fr.intOf (el4 j)) r0 r1 r2 (Fr.ints_ok hg4)) W (of_laid hL) ⟨rfl, rfl, rfl, rfl, Fr.ints_show hs4 hg4, trivial⟩).mono post
theorem orbitTells_row : Rows.OrbitTellsSaid :=
 OpenClaim.holds_of_wide 3 Tryz.f3 rfl rfl rfl rfl rfl rfl rfl ⟨rfl, rfl, rfl, rfl, rfl⟩ rfl rfl rfl rfl rfl (by kernel_rfl) rfl (by kernel_rfl)
  (of_decide_eq_true (by kernel_rfl)) (by unfold Func.isWrapper; first | (rw [if_pos (by decide +kernel)]; kernel_rfl) | (rw [if_neg (by decide +kernel)]; exact ⟨rfl, rfl⟩))
  (fun os started H enc _ => orbitTells_lifted os started H enc)
theorem orbitTells_holds : Rows.OrbitTellsCardSaid :=
 Claim7.holds_tied_plain_at .later [] [.data, .data] true Rows.orbitTellsCard.stood.harness true
  orbitTells_row (fun _ h => by cases h) (by kernel_rfl) (fun _ h => by cases h) orbitTells_row_tie rfl ⟨rfl, rfl⟩ (by kernel_rfl) rfl
  (fun f fn hf hfn => by
   obtain rfl : f = 3 := Option.some.inj ((show Tryz.prog.funcNamed "gyre/gyrelaw21.OrbitTells" = some 3 by kernel_rfl).symm.trans hf) |>.symm
   obtain rfl : fn = Tryz.f3 := (Option.some.inj ((rfl : Tryz.prog.funcs[3]? = some Tryz.f3).symm.trans hfn)).symm
   exact ⟨by kernel_rfl, fun j t ht => by
    have hm : t ∈ [3, 23, 24] := by
     have := Array.mem_of_getElem? (show (#[3, 3, 3, 23, 24] : Array TypeId)[j]? = some t from ht)
     simpa using this
    have hall : ([3, 23, 24].all fun u => !Tryz.prog.wantsStandIn u) = true := by kernel_rfl
    exact (show Tryz.prog.wantsStandIn t = false by simpa using List.all_eq_true.1 hall t hm)⟩)
  (by kernel_rfl)
end Go.Proofs.YtekplphjbngabaaGreatDoor
