/-
  States as arguments; nine arguments. Printed by frameB.py.
-/
import Derived.Test.YtdnpnccieabmiaaDoorFrameS
import Derived.Test.YtdnpnccieabmiaaDoorFrm
import Derived.Test.YtdnpnccieabmiaaDoorHeS
set_option maxRecDepth 100000
namespace Go.Fr
open Go Go.RowKit Go.Sx Go.Nm Go.Wd Go.Qt Go.ChangeShapes Go.WideShapes
section
variable {H : Type} {enc : TypeId × Value → H} {P : Program} {w : World} {base : Nat} {spare : Nat → Bool} {held : Bool}
end
theorem vec_cells {H : Type} {enc : TypeId × Value → H} {P : Program} {W : World} {b0 : Nat} {sp : Nat → Bool} {held : Bool} {u k : TypeId} (hu : P.underlying u = some (.array 3 k)) (hc : P.cellsOf k = 1) (hk : P.underlying k = some (.int .i64)) {m : Nat} {cs : List Value} {y : DataW H × List MemPlace}
    (h : DataW.trod enc P W b0 sp held m u cs = some y) (hl : cs.length = 3) : ∃ a b c : Int, cs = [.int .i64 a, .int .i64 b, .int .i64 c] := by
  obtain ⟨xs, m', _, _, _, hx, hel⟩ := DataW.trod_array hu h
  match cs, hl with
  | [a, b, c], _ =>
    have cell : ∀ (i : Nat) (x : Value), i < 3 → (([a, b, c].drop (i * P.cellsOf k)).take (P.cellsOf k)) = [x] → ∃ n : Int, x = .int .i64 n := fun i x hi hx' => by
      have h1 := hel i hi
      rw [hx', List.getElem?_eq_getElem (by omega)] at h1
      obtain ⟨n, e1, _, hw⟩ := DataW.trod_int hk h1
      simp only [List.cons.injEq, and_true] at e1
      exact ⟨n, e1⟩
    obtain ⟨a, rfl⟩ := cell 0 a (by decide) (by rw [hc]; rfl)
    obtain ⟨b, rfl⟩ := cell 1 b (by decide) (by rw [hc]; rfl)
    obtain ⟨c, rfl⟩ := cell 2 c (by decide) (by rw [hc]; rfl)
    exact ⟨a, b, c, rfl⟩
theorem body_el {H : Type} {enc : TypeId × Value → H} {P : Program} {W : World} {b0 : Nat} {sp : Nat → Bool} {held : Bool} {e u k : TypeId} {f0 f1 : Field} (he : P.underlying e = some (.struct #[f0, f1])) (o0 : f0.offset = 0) (o1 : f1.offset = 3) (t0 : f0.type = u) (t1 : f1.type = u)
    (hu : P.underlying u = some (.array 3 k)) (h3 : P.cellsOf u = 3) (hc : P.cellsOf k = 1) (hk : P.underlying k = some (.int .i64)) (m : Nat) (cs : List Value) (y : DataW H × List MemPlace)
    (h : DataW.trod enc P W b0 sp held m e cs = some y) (hl : cs.length = 6) : ∃ v : Value, v.cells = cs.toArray ∧ ∃ b, v = He.Bv b := by
  obtain ⟨y0, y1, m', _, _, i0, i1⟩ := trod_struct2 he h
  rw [o0, t0, h3] at i0
  rw [o1, t1, h3] at i1
  match cs, hl with
  | [p0, p1, p2, q0, q1, q2], _ =>
    obtain ⟨a, b, c, e0⟩ := vec_cells hu hc hk i0 rfl
    obtain ⟨d, f, g, e1⟩ := vec_cells hu hc hk i1 rfl
    simp only [List.drop_zero, List.drop_succ_cons, List.take_succ_cons, List.take_zero, List.cons.injEq, and_true] at e0 e1
    obtain ⟨rfl, rfl, rfl⟩ := e0
    obtain ⟨rfl, rfl, rfl⟩ := e1
    exact ⟨He.Bv ⟨a, b, c, d, f, g⟩, rfl, ⟨a, b, c, d, f, g⟩, rfl⟩
theorem state_arg {H : Type} {enc : TypeId × Value → H} {P : Program} {W : World} {r : Reach} {base b0 : Nat} {sp : Nat → Bool} {held : Bool} {t ti ts e : TypeId} {v : Value} {d : DataW H} {ps : List MemPlace} {sz : Nat} {f0 f1 : Field} (ht : P.underlying t = some (.struct #[f0, f1])) (o0 : f0.offset = 0) (o1 : f1.offset = 1) (t0 : f0.type = ti) (t1 : f1.type = ts)
    (ci : P.cellsOf ti = 1) (cs : P.cellsOf ts = 1) (hi : P.underlying ti = some (.int .i64)) (hs : P.underlying ts = some (.slice e)) (hct : P.cellsOf t = 2) (hty : P.cellTypes P.depth t = some [ti, ts]) (hc : P.cellsOf e = sz)
    (hv : Value.okWide P W r base t v) (h : DataW.Trod enc P W b0 sp held t v d ps) (Good : Value → Prop)
    (good : ∀ (m : Nat) (cs : List Value) (y : DataW H × List MemPlace), DataW.trod enc P W b0 sp held m e cs = some y → cs.length = sz → ∃ u : Value, u.cells = cs.toArray ∧ Good u) :
    ∃ s : Int, v = .agg #[.int .i64 s, .slice none 0 0] ∨ ∃ (n : Nat) (el : Nat → Value), n ≤ maxLen ∧ Shows W (.st [.int .i64 s] ⟨e, sz, n, el, false⟩) v ∧ ∀ j, j < n → Good (el j) := by
  obtain ⟨fuel, hf⟩ := h
  unfold Value.okWide at hv
  rw [ht] at hv
  obtain ⟨xs, rfl, hsz, tys, h1, h2, h3⟩ := hv
  rw [hty] at h1
  cases h1
  rw [hct] at hsz
  obtain ⟨l⟩ := xs
  match l, (show l.length = 2 from hsz) with
  | [x, y], _ =>
    obtain ⟨y0, y1, m, _, _, i0, i1⟩ := trod_struct2 ht hf
    rw [o0, t0, ci] at i0
    rw [o1, t1, cs] at i1
    obtain ⟨s, e0, _, _⟩ := DataW.trod_int hi i0
    have e0 : [x] = [.int .i64 s] := e0
    simp only [List.cons.injEq, and_true] at e0
    subst e0
    obtain ⟨k, hk, ho⟩ := h3 1 y (by simp)
    have hk2 : [ti, ts][1 % 2]? = some k := hk
    have hk3 : ts = k := by simpa using hk2
    subst hk3
    have hv1 : Value.okWide P W r base ts y := by
      unfold Value.okWide
      rw [hs]
      exact ho
    have i1 : DataW.trod enc P W b0 sp held m ts [y] = some y1 := i1
    have hd : DataW.Trod enc P W b0 sp held ts y y1.1 y1.2 := by
      obtain ⟨a, len, cap, rfl⟩ := okWide_slice hs hv1
      exact ⟨m, i1⟩
    refine ⟨s, ?_⟩
    rcases slice_arg hs hc hv1 hd Good good with rfl | ⟨n, el, hm, ⟨p, hp, hw⟩, hg⟩
    · exact .inl rfl
    · subst hp
      exact .inr ⟨n, el, hm, ⟨p, rfl, hw⟩, hg⟩
theorem st_show {W : World} {e n : Nat} {pre : List Value} {el : Nat → Value} {v : Value} (h : Shows W (.st pre ⟨e, 6, n, el, false⟩) v) (hg : ∀ j, j < n → ∃ b, el j = He.Bv b) : Shows W (.st pre ⟨e, 6, n, fun j => He.Bv (He.rdB (el j)), false⟩) v := by
  obtain ⟨p, hp, w⟩ := h
  obtain ⟨cells, ty, fr, hc, _, hel⟩ := w.mem
  refine ⟨p, hp, w.n, w.cap, fun e => (by cases e), cells, ty, fr, hc, fun e => (by cases e), fun j hj => ?_⟩
  obtain ⟨b, hb⟩ := hg j hj
  have := hel j hj
  simp only at this ⊢
  rw [hb] at this ⊢
  exact this
end Go.Fr
