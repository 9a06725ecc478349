/-
  Texts as arguments, rows of texts, and what is laid.
-/
import Derived.Test.YtpeepbgpcmodcaaDoorSxc
import Derived.ProofKit
import Derived.Lib.LaidU8
import Derived.Carry
import Derived.OpenShut
set_option maxRecDepth 100000
namespace Go.Fx
open Go Go.RowKit Go.Sx Go.ChangeShapes Go.WideShapes Go.ChangeAt Go.Lib
theorem all_below {H : Type} {enc : TypeId × Value → H} {P : Program} (hl : laidOutB P = true) {W W' : World} {sp : Nat → Bool} (hb : Below W.heap.size W W') :
    ∀ {ts : List TypeId} {vs : List Value} {ds : List (DataW H)} {ps : List MemPlace}, ts.all (fun t => P.readableRec t && decide (t < P.types.size)) = true →
      DataW.TrodAll enc P W 0 (fun _ => true) true ts vs ds ps → (∀ p ∈ ps, p.block < W.heap.size) → (∀ p ∈ ps, sp p.block = true) → DataW.TrodAll enc P W' 0 sp true ts vs ds ps
  | [], [], [], _, _, h, _, _ => h
  | t :: ts, v :: vs, d :: ds, ps, ht, h, hlt, hsp => by
    obtain ⟨p, q, h1, h2, rfl⟩ := h
    simp only [List.all_cons, Bool.and_eq_true, decide_eq_true_eq] at ht
    refine ⟨p, q, WideElems.Trod_stays hl ht.1.1 ht.1.2 h1 (fun x hx => hb.same (hlt x (List.mem_append.2 (.inl hx)))) (fun x hx => hsp x (List.mem_append.2 (.inl hx))), ?_, rfl⟩
    exact all_below hl hb (by simpa using ht.2) h2 (fun x hx => hlt x (List.mem_append.2 (.inr hx))) (fun x hx => hsp x (List.mem_append.2 (.inr hx)))
  | [], [], _ :: _, _, _, h, _, _ => h.elim
  | [], _ :: _, _, _, _, h, _, _ => h.elim
  | _ :: _, [], _, _, _, h, _, _ => h.elim
  | _ :: _, _ :: _, [], _, _, h, _, _ => h.elim
theorem law_post {H : Type} {enc : TypeId × Value → H} {P : Program} {f : Func} {s : ChangeSpec} {apart fresh handsOn again : Bool} {W W' : World} {args : Array Value} {ds gs : List (DataW H)} {before : List MemPlace} {tb : TypeId}
    (hl : laidOutB P = true) (ht : f.params.toList.all (fun t => P.readableRec t && decide (t < P.types.size)) = true) (hv : s.vars = []) (hr : f.resultTypes = #[tb]) (htb : P.underlying tb = some .bool)
    (hW : DataW.Whole enc P f.params.toList s.vars apart W args.toList ds gs before) (hb : Below W.heap.size W W')
    (hres : (s.fn H (ds ++ gs)).results = [.lit (.bool true)]) (hargs : (s.fn H (ds ++ gs)).args = ds) (hvars : (s.fn H (ds ++ gs)).vars = []) :
    s.post enc P f apart fresh handsOn again W args (.bool true) W' := by
  have hlt := hW.lt
  have hW0 := hW
  obtain ⟨p, q, hA, hV, rfl, hz, hn⟩ := hW
  rw [hv] at hV
  obtain ⟨rfl, rfl⟩ := trodVars_none hV
  have hz0 := hz
  have hn0 := hn
  rw [List.append_nil] at hlt hz0 hn0
  have hok : ∀ (j : Nat) (t : TypeId) (r : Value), f.resultTypes[j]? = some t → ((Value.bool true).resultList f.resultTypes.size)[j]? = some r → Value.okWide P W' .any 0 t r := ok_one hr rfl (by
    simp [Value.okWide, htb, Cell.okWide, Cell.ok])
  have hA' : ∀ sp : Nat → Bool, (∀ x ∈ p, sp x.block = true) → DataW.TrodAll enc P W' 0 sp true f.params.toList args.toList (s.fn H (ds ++ [])).args p := fun sp hsp => by
    rw [hargs]; exact all_below hl hb ht hA hlt hsp
  have hR : ∀ (b : Nat) (sp : Nat → Bool) (hd : Bool), DataW.TrodAll enc P W' b sp hd f.resultTypes.toList ((Value.bool true).resultList f.resultTypes.size) (s.fn H (ds ++ [])).results [] := fun b sp hd => by
    rw [hres, hr]; exact trodAll_mk1 (shut_bool htb true)
  have hA1 := hA' (fun b => decide (b < W.heap.size)) (fun x hx => decide_eq_true (hlt x hx))
  refine ⟨ds, [], p ++ [], [], p, [], hW0, hR _ _ _, hA1, ?_, ?_, fun _ => ?_⟩
  · rw [hv, hvars]; exact rfl
  · exact hb.frame _
  · refine ⟨hok, _, [], ([] ++ p) ++ [], ⟨[] ++ p, [], trodAll_append (hA' _ (fun _ _ => rfl)) (hR _ _ _), ?_, rfl, ?_, ?_⟩, ?_⟩
    · rw [hv]; exact rfl
    · intro b off hp
      have hp' : MemPlace.cell b off ∈ p := by simpa using hp
      rw [hb.frozen (p := ⟨b, off, none⟩) (hlt _ hp')]
      exact hz0 b off hp'
    · intro ha
      simpa using hn0 ha
    · intro x hx _
      simpa using hx
section
variable {H : Type} {enc : TypeId × Value → H} {P : Program} {w : World} {base : Nat} {spare : Nat → Bool} {held : Bool}
end
theorem laidVars_mem {P : Program} {w : World} : ∀ {l : List (String × DataW Unit)} {ps : List MemPlace}, DataW.LaidVars P w l ps → ∀ n d, (n, d) ∈ l →
    ∃ g t cs fuel p, P.globalNamed n = some g ∧ (P.globals[g]?).map (·.type) = some t ∧ w.var? P n = some cs ∧ DataW.trod (fun _ => ()) P w 0 (fun _ => true) false fuel t cs.toList = some (d, p) ∧ ∀ i, i < cs.size → MemPlace.cell g i ∈ ps
  | [], _, _, _, _, hm => by cases hm
  | (n', d') :: r, ps, h, n, d, hm => by
    obtain ⟨g, t, cs, fuel, p, q, h1, h2, h3, h4, h5, rfl⟩ := h
    rcases List.mem_cons.1 hm with e | e
    · cases e
      refine ⟨g, t, cs, fuel, p, h1, h2, h3, h4, fun i hi => List.mem_append_left _ (List.mem_append_left _ (List.mem_map.2 ⟨i, List.mem_range.2 hi, ?_⟩))⟩
      simp
    · obtain ⟨g', t', cs', fuel', p', a1, a2, a3, a4, a5⟩ := laidVars_mem h5 n d e
      exact ⟨g', t', cs', fuel', p', a1, a2, a3, a4, fun i hi => List.mem_append_right _ (a5 i hi)⟩
theorem laid_heap {P : Program} {W : World} {l : List (String × DataW Unit)} (h : laidMet P l W) {n : String} {d : DataW Unit} (hm : (n, d) ∈ l) :
    ∃ g t cs fuel p, P.globalNamed n = some g ∧ (P.globals[g]?).map (·.type) = some t ∧ DataW.trod (fun _ => ()) P W 0 (fun _ => true) false fuel t cs.toList = some (d, p) ∧ (0 < cs.size → ∃ ty, W.heap[g]? = some (.cells cs ty (0, 0))) := by
  obtain ⟨ps, hv, _, hfz⟩ := h
  obtain ⟨g, t, cs, fuel, p, h1, h2, h3, h4, h5⟩ := laidVars_mem hv n d hm
  refine ⟨g, t, cs, fuel, p, h1, h2, h4, fun hc => ?_⟩
  obtain ⟨c, ty, hh⟩ := (hfz g 0 (h5 0 hc)).1
  unfold World.var? at h3
  rw [h1] at h3
  simp only [Option.bind_some, hh, Option.some.injEq] at h3
  exact ⟨ty, by rw [hh, h3]⟩
theorem laid_tab {P : Program} {W : World} {l : List (String × DataW Unit)} (h : laidMet P l W) {n : String} {k : IntKind} {zs : List Int} {g : Nat} {t e : TypeId} {len : Nat} (hm : (n, tabData k zs) ∈ l)
    (hg : P.globalNamed n = some g) (ht : (P.globals[g]?).map (·.type) = some t) (hu : P.underlying t = some (.array len e)) (he : P.underlying e = some (.int k)) (hce : P.cellsOf e = 1) (hct : P.cellsOf t = len) (hz : 0 < zs.length) :
    ∃ ty, W.heap[g]? = some (.cells (zs.map fun z => Value.int k z).toArray ty (0, 0)) := by
  obtain ⟨g', t', cs, fuel, p, h1, h2, h3, h4⟩ := laid_heap h hm
  obtain rfl := Option.some.inj (hg.symm.trans h1)
  obtain rfl := Option.some.inj (ht.symm.trans h2)
  have hcs := cells_of_tab hu he hce hct h3
  have hl : cs.size = zs.length := by
    have := congrArg List.length hcs
    simpa using this
  obtain ⟨ty, hh⟩ := h4 (by omega)
  refine ⟨ty, hh.trans ?_⟩
  rw [← hcs]
theorem laid_accept {P : Program} {W : World} {l : List (String × DataW Unit)} (h : laidMet P l W) {n : String} {g : Nat} {t e b : TypeId} {f0 f1 : Field} (hm : (n, acceptData) ∈ l)
    (hg : P.globalNamed n = some g) (ht : (P.globals[g]?).map (·.type) = some t) (hu : P.underlying t = some (.array 16 e)) (he : P.underlying e = some (.struct #[f0, f1])) (o0 : f0.offset = 0) (o1 : f1.offset = 1) (t0 : f0.type = b) (t1 : f1.type = b)
    (hb : P.underlying b = some (.int .u8)) (cb : P.cellsOf b = 1) (ce : P.cellsOf e = 2) (ct : P.cellsOf t = 32) :
    ∃ ty, W.heap[g]? = some (.cells ((List.range 32).map fun c => Value.int .u8 (if c % 2 = 0 then accLo (c / 2) else accHi (c / 2))).toArray ty (0, 0)) := by
  obtain ⟨g', t', cs, fuel, p, h1, h2, h3, h4⟩ := laid_heap h hm
  obtain rfl := Option.some.inj (hg.symm.trans h1)
  obtain rfl := Option.some.inj (ht.symm.trans h2)
  have key : ∀ i, i < 16 → cs[2 * i]? = some (.int .u8 (accLo i)) ∧ cs[2 * i + 1]? = some (.int .u8 (accHi i)) := fun i hi => by
    obtain ⟨fuel', d, q, hdi, hel⟩ := array_elem hu h3 i hi
    simp only [List.getElem?_map, List.getElem?_range hi, Option.map_some, Option.some.injEq] at hdi
    subst hdi
    rw [ce] at hel
    have hcs := ints_of_struct he (fun j f hj => by
      match j, hj with
      | 0, hj => simp at hj; subst hj; exact ⟨by rw [t0]; exact hb, o0, by rw [t0]; exact cb⟩
      | 1, hj => simp at hj; subst hj; exact ⟨by rw [t1]; exact hb, o1, by rw [t1]; exact cb⟩
      | j + 2, hj => simp at hj) (by rw [ce]; rfl) hel
    have e0 := congrArg (·[0]?) hcs
    have e1 := congrArg (·[1]?) hcs
    simp only [List.getElem?_take, List.getElem?_drop] at e0 e1
    constructor
    · rw [← Array.getElem?_toList]; simpa [Nat.mul_comm] using e0
    · rw [← Array.getElem?_toList]; simpa [Nat.mul_comm] using e1
  have hsz : cs.size = 32 := by
    obtain ⟨xs, m1, _, _, hlen, _, _⟩ := DataW.trod_array hu h3
    rw [ct] at hlen
    simpa using hlen
  obtain ⟨ty, hh⟩ := h4 (by omega)
  refine ⟨ty, hh.trans ?_⟩
  congr 2
  apply Array.ext_getElem?
  intro j
  by_cases hj : j < 32
  · obtain ⟨k1, k2⟩ := key (j / 2) (by omega)
    simp only [List.getElem?_toArray, List.getElem?_map, List.getElem?_range hj, Option.map_some]
    by_cases hm2 : j % 2 = 0
    · rw [if_pos hm2]
      rw [show 2 * (j / 2) = j by omega] at k1
      exact k1
    · rw [if_neg hm2]
      rw [show 2 * (j / 2) + 1 = j by omega] at k2
      exact k2
  · rw [Array.getElem?_eq_none (by omega), Array.getElem?_eq_none (by simp; omega)]
theorem cells_get {W : World} {base : Nat} {a : Addr} {n : Nat} {cs : List Value} (h : W.cells? base a n = some cs) : cs.length = n ∧ ∀ i, i < n → W.cell? (a.add i) = cs[i]? := by
  unfold World.cells? at h
  split at h
  · exact ⟨by simpa using mapM_some_length h, fun i hi => mapM_some_get h i i (by simp [hi])⟩
  · cases h
theorem slice_arg {H : Type} {enc : TypeId × Value → H} {P : Program} {W : World} {r : Reach} {base b0 : Nat} {sp : Nat → Bool} {held : Bool} {t e : TypeId} {v : Value} {d : DataW H} {ps : List MemPlace} {sz : Nat} (ht : P.underlying t = some (.slice e)) (hc : P.cellsOf e = sz)
    (hv : Value.okWide P W r base t v) (h : DataW.Trod enc P W b0 sp held t v d ps) (Good : Value → Prop)
    (good : ∀ (m : Nat) (cs : List Value) (y : DataW H × List MemPlace), DataW.trod enc P W b0 sp held m e cs = some y → cs.length = sz → ∃ u : Value, u.cells = cs.toArray ∧ Good u) :
    v = .slice none 0 0 ∨ ∃ (n : Nat) (el : Nat → Value), n ≤ maxLen ∧ Shows W (.row ⟨e, sz, n, el, false⟩) v ∧ ∀ j, j < n → Good (el j) := by
  obtain ⟨fuel, hf⟩ := h
  obtain ⟨a, len, cap, rfl⟩ := okWide_slice ht hv
  rcases DataW.trod_slice ht hf with ⟨h1, _⟩ | ⟨a', len', cap', elems, rest, m, _, h1, _, hb, hl, hm, hel, helt, _, _⟩
  · left
    simpa [Value.cells] using h1
  · right
    simp only [Value.cells, List.cons.injEq, Value.slice.injEq, and_true] at h1
    obtain ⟨rfl, rfl, rfl⟩ := h1
    simp only [Value.okWide, ht, Cell.okWide, Cell.ok] at hv
    obtain ⟨_, _, hhas⟩ := hv
    obtain ⟨_, hspot, row, cells, hsh, _⟩ := hhas
    obtain ⟨blk, off, spot⟩ := a'
    simp only at hspot
    subst hspot
    unfold World.shape? at hsh
    split at hsh
    · rename_i c ty fr hh
      have each : ∀ j, j < len → ∃ u : Value, Good u ∧ u.cells.size = sz ∧ ∀ i, i < sz → c[off + (j * sz + i)]? = u.cells[i]? := fun j hj => by
        have hj' := helt j hj
        have hlt : j < elems.length := by omega
        rw [List.getElem?_eq_getElem hlt] at hj'
        simp only [Option.bind_eq_some_iff] at hj'
        obtain ⟨cs, hcs, hy⟩ := hj'
        obtain ⟨g1, g2⟩ := cells_get hcs
        obtain ⟨u, hu, hg⟩ := good _ _ _ hy (g1.trans hc)
        refine ⟨u, hg, by rw [hu]; simpa using g1.trans hc, fun i hi => ?_⟩
        have := g2 i (by omega)
        rw [hu]
        rw [addr_add, addr_add, cell_of hh, hc] at this
        rw [show off + (j * sz + i) = off + j * sz + i by omega, this]
        simp
      refine ⟨len, fun j => if hj : j < len then Classical.choose (each j hj) else undef, by omega, ⟨⟨false, blk, off, len, cap⟩, rfl, ⟨rfl, hl, fun e => (by cases e), c, ty, fr, hh, fun e => (by cases e), fun j hj => ?_⟩⟩, fun j hj => ?_⟩
      · have hj : j < len := hj
        simp only [dif_pos hj]
        exact (Classical.choose_spec (each j hj)).2
      · simp only [dif_pos hj]
        exact (Classical.choose_spec (each j hj)).1
    · cases hsh
theorem int_el {H : Type} {enc : TypeId × Value → H} {P : Program} {W : World} {b0 : Nat} {sp : Nat → Bool} {held : Bool} {e : TypeId} (he : P.underlying e = some (.int .i64)) (m : Nat) (cs : List Value) (y : DataW H × List MemPlace)
    (h : DataW.trod enc P W b0 sp held m e cs = some y) (_ : cs.length = 1) : ∃ u : Value, u.cells = cs.toArray ∧ ∃ n, u = .int .i64 n ∧ (-9223372036854775808 ≤ n ∧ n ≤ 9223372036854775807) := by
  obtain ⟨n, rfl, _, hw⟩ := DataW.trod_int he h
  refine ⟨.int .i64 n, rfl, n, rfl, ?_⟩
  simp [Lit.wf, IntKind.min, IntKind.max, IntKind.signed, IntKind.bits] at hw
  omega
theorem str_el {H : Type} {enc : TypeId × Value → H} {P : Program} {W : World} {b0 : Nat} {sp : Nat → Bool} {held : Bool} {e : TypeId} (he : P.underlying e = some .string) (m : Nat) (cs : List Value) (y : DataW H × List MemPlace)
    (h : DataW.trod enc P W b0 sp held m e cs = some y) (_ : cs.length = 1) : ∃ u : Value, u.cells = cs.toArray ∧ ∃ s, u = .string s := by
  obtain ⟨s, rfl, _⟩ := DataW.trod_string he h
  exact ⟨.string s, rfl, s, rfl⟩
theorem shows_el {W : World} {e sz n : Nat} {el el' : Nat → Value} {v : Value} (h : Shows W (.row ⟨e, sz, n, el, false⟩) v) (he : ∀ j, j < n → el' j = el j) : Shows W (.row ⟨e, sz, n, el', false⟩) v := by
  obtain ⟨p, hp, w⟩ := h
  obtain ⟨cells, ty, fr, hc, _, hel⟩ := w.mem
  refine ⟨p, hp, w.n, w.cap, fun e => (by cases e), cells, ty, fr, hc, fun e => (by cases e), fun j hj => ?_⟩
  show (el' j).cells.size = sz ∧ ∀ i, i < sz → cells[p.off + (j * sz + i)]? = (el' j).cells[i]?
  rw [he j hj]
  exact hel j hj
def strOf : Value → ByteArray
  | .string s => s
  | _ => ByteArray.empty
def intOf : Value → Int
  | .int _ n => n
  | _ => 0
theorem strs_show {W : World} {e n : Nat} {el : Nat → Value} {v : Value} (h : Shows W (.row ⟨e, 1, n, el, false⟩) v) (hg : ∀ j, j < n → ∃ s, el j = .string s) : Shows W (.row ⟨e, 1, n, fun j => .string (strOf (el j)), false⟩) v :=
  shows_el h fun j hj => by obtain ⟨s, hs⟩ := hg j hj; rw [hs]; rfl
theorem ints_show {W : World} {e n : Nat} {el : Nat → Value} {v : Value} (h : Shows W (.row ⟨e, 1, n, el, false⟩) v) (hg : ∀ j, j < n → ∃ k, el j = .int .i64 k ∧ (-9223372036854775808 ≤ k ∧ k ≤ 9223372036854775807)) : Shows W (.row ⟨e, 1, n, fun j => .int .i64 (intOf (el j)), false⟩) v :=
  shows_el h fun j hj => by obtain ⟨k, hk, _⟩ := hg j hj; rw [hk]; rfl
theorem calls_of_givesD {P : Program} {f : FuncId} {ds : List DV} {args : List Value} {v : Value} (hf : funOk P f = true) (h : GivesD P f ds v) : ∀ w, LaidG w → ShowsL w ds args → Calls P f args.toArray w fun e w' => e = .returned v ∧ Below w.heap.size w w' := by
  intro w hz hs
  obtain ⟨fn, hfn, hfb, hfname⟩ := funOk_spec hf
  have := h Fence.wide 0 ⟨some 0, .move (.const undef), 0, "", #[], none⟩ ⟨#[undef], []⟩ w (fun a' w' => a'.tmps[0]? = some v ∧ Below w.heap.size w w') (fun _ _ _ => False) args rfl rfl rfl hz hs (fun W' hb => ⟨rfl, hb⟩)
  rw [run_callFunc_body hfn hfb hfname, Oper.uponIn_enter] at this
  rw [← callsIn_wide (n := 0)]
  refine this.2.mono ?_
  intro e w' he
  cases e with
  | returned u =>
    obtain ⟨h1, h2⟩ := he
    have : u = v := by simpa [Act.put] using h1
    exact ⟨by rw [this], h2⟩
  | panicked ch => exact he.elim
  | outgrown => obtain ⟨_, _, hx⟩ := he; exact hx.elim
end Go.Fx
