/-
  Slices as arguments: rows of what they hold.
-/
import Derived.Test.YtdnpnccieabmiaaDoorFrm
import Derived.OpenShut
set_option maxRecDepth 100000
namespace Go.Fr
open Go Go.RowKit Go.Sx Go.Nm Go.Wd Go.Qt Go.ChangeShapes Go.WideShapes
theorem cells_get {W : World} {base : Nat} {a : Addr} {n : Nat} {cs : List Value} (h : W.cells? base a n = some cs) : cs.length = n ∧ ∀ i, i < n → W.cell? (a.add i) = cs[i]? := by
  unfold World.cells? at h
  split at h
  · exact ⟨by simpa using mapM_some_length h, fun i hi => mapM_some_get h i i (by simp [hi])⟩
  · cases h
theorem slice_arg {H : Type} {enc : TypeId × Value → H} {P : Program} {W : World} {r : Reach} {base b0 : Nat} {sp : Nat → Bool} {held : Bool} {t e : TypeId} {v : Value} {d : DataW H} {ps : List MemPlace} {sz : Nat} (ht : P.underlying t = some (.slice e)) (hc : P.cellsOf e = sz)
    (hv : Value.okWide P W r base t v) (h : DataW.Trod enc P W b0 sp held t v d ps) (Good : Value → Prop)
    (good : ∀ (m : Nat) (cs : List Value) (y : DataW H × List MemPlace), DataW.trod enc P W b0 sp held m e cs = some y → cs.length = sz → ∃ u : Value, u.cells = cs.toArray ∧ Good u) :
    v = .slice none 0 0 ∨ ∃ (n : Nat) (el : Nat → Value), n ≤ maxLen ∧ Shows W (.row ⟨e, sz, n, el, false⟩) v ∧ ∀ j, j < n → Good (el j) := by
  obtain ⟨fuel, hf⟩ := h
  obtain ⟨a, len, cap, rfl⟩ := okWide_slice ht hv
  rcases DataW.trod_slice ht hf with ⟨h1, _⟩ | ⟨a', len', cap', elems, rest, m, _, h1, _, hb, hl, hm, hel, helt, _, _⟩
  · left
    simpa [Value.cells] using h1
  · right
    simp only [Value.cells, List.cons.injEq, Value.slice.injEq, and_true] at h1
    obtain ⟨rfl, rfl, rfl⟩ := h1
    simp only [Value.okWide, ht, Cell.okWide, Cell.ok] at hv
    obtain ⟨_, _, hhas⟩ := hv
    obtain ⟨_, hspot, row, cells, hsh, _⟩ := hhas
    obtain ⟨blk, off, spot⟩ := a'
    simp only at hspot
    subst hspot
    unfold World.shape? at hsh
    split at hsh
    · rename_i c ty fr hh
      have each : ∀ j, j < len → ∃ u : Value, Good u ∧ u.cells.size = sz ∧ ∀ i, i < sz → c[off + (j * sz + i)]? = u.cells[i]? := fun j hj => by
        have hj' := helt j hj
        have hlt : j < elems.length := by omega
        rw [List.getElem?_eq_getElem hlt] at hj'
        simp only [Option.bind_eq_some_iff] at hj'
        obtain ⟨cs, hcs, hy⟩ := hj'
        obtain ⟨g1, g2⟩ := cells_get hcs
        obtain ⟨u, hu, hg⟩ := good _ _ _ hy (g1.trans hc)
        refine ⟨u, hg, by rw [hu]; simpa using g1.trans hc, fun i hi => ?_⟩
        have := g2 i (by omega)
        rw [hu]
        rw [addr_add, addr_add, cell_of hh, hc] at this
        rw [show off + (j * sz + i) = off + j * sz + i by omega, this]
        simp
      refine ⟨len, fun j => if hj : j < len then Classical.choose (each j hj) else undef, by omega, ⟨⟨false, blk, off, len, cap⟩, rfl, ⟨rfl, hl, fun e => (by cases e), c, ty, fr, hh, fun e => (by cases e), fun j hj => ?_⟩⟩, fun j hj => ?_⟩
      · have hj : j < len := hj
        simp only [dif_pos hj]
        exact (Classical.choose_spec (each j hj)).2
      · simp only [dif_pos hj]
        exact (Classical.choose_spec (each j hj)).1
    · cases hsh
theorem calls_of_givesD {P : Program} {f : FuncId} {ds : List DV} {args : List Value} {v : Value} (hf : funOk P f = true) (h : GivesD P f ds v) : ∀ w, LaidG w → ShowsL w ds args → Calls P f args.toArray w fun e w' => e = .returned v ∧ Below w.heap.size w w' := by
  intro w hz hs
  obtain ⟨fn, hfn, hfb, hfname⟩ := funOk_spec hf
  have := h Fence.wide 0 ⟨some 0, .move (.const undef), 0, "", #[], none⟩ ⟨#[undef], []⟩ w (fun a' w' => a'.tmps[0]? = some v ∧ Below w.heap.size w w') (fun _ _ _ => False) args rfl rfl rfl hz hs (fun W' hb => ⟨rfl, hb⟩)
  rw [run_callFunc_body hfn hfb hfname, Oper.uponIn_enter] at this
  rw [← callsIn_wide (n := 0)]
  refine this.2.mono ?_
  intro e w' he
  cases e with
  | returned u =>
    obtain ⟨h1, h2⟩ := he
    have : u = v := by simpa [Act.put] using h1
    exact ⟨by rw [this], h2⟩
  | panicked ch => exact he.elim
  | outgrown => obtain ⟨_, _, hx⟩ := he; exact hx.elim
end Go.Fr
