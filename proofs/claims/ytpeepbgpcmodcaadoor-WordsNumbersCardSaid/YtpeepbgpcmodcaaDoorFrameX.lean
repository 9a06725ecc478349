/-
  Texts as arguments, rows of texts, and what is laid.
-/
import Derived.Test.YtpeepbgpcmodcaaDoorSxc
import Derived.ProofKit
import Derived.Lib.LaidU8
import Derived.Carry
import Derived.OpenShut
set_option maxRecDepth 100000
namespace Go.Fx
open Go Go.RowKit Go.Sx Go.ChangeShapes Go.WideShapes Go.ChangeAt Go.Lib
theorem all_below {H : Type} {enc : TypeId × Value → H} {P : Program} (hl : laidOutB P = true) {W W' : World} {sp : Nat → Bool} (hb : Below W.heap.size W W') :
    ∀ {ts : List TypeId} {vs : List Value} {ds : List (DataW H)} {ps : List MemPlace}, ts.all (fun t => P.readableRec t && decide (t < P.types.size)) = true →
      DataW.TrodAll enc P W 0 (fun _ => true) true ts vs ds ps → (∀ p ∈ ps, p.block < W.heap.size) → (∀ p ∈ ps, sp p.block = true) → DataW.TrodAll enc P W' 0 sp true ts vs ds ps
  | [], [], [], _, _, h, _, _ => h
  | t :: ts, v :: vs, d :: ds, ps, ht, h, hlt, hsp => by
    obtain ⟨p, q, h1, h2, rfl⟩ := h
    simp only [List.all_cons, Bool.and_eq_true, decide_eq_true_eq] at ht
    refine ⟨p, q, WideElems.Trod_stays hl ht.1.1 ht.1.2 h1 (fun x hx => hb.same (hlt x (List.mem_append.2 (.inl hx)))) (fun x hx => hsp x (List.mem_append.2 (.inl hx))), ?_, rfl⟩
    exact all_below hl hb (by simpa using ht.2) h2 (fun x hx => hlt x (List.mem_append.2 (.inr hx))) (fun x hx => hsp x (List.mem_append.2 (.inr hx)))
  | [], [], _ :: _, _, _, h, _, _ => h.elim
  | [], _ :: _, _, _, _, h, _, _ => h.elim
  | _ :: _, [], _, _, _, h, _, _ => h.elim
  | _ :: _, _ :: _, [], _, _, h, _, _ => h.elim
theorem law_post {H : Type} {enc : TypeId × Value → H} {P : Program} {f : Func} {s : ChangeSpec} {apart fresh handsOn again : Bool} {W W' : World} {args : Array Value} {ds gs : List (DataW H)} {before : List MemPlace} {tb : TypeId}
    (hl : laidOutB P = true) (ht : f.params.toList.all (fun t => P.readableRec t && decide (t < P.types.size)) = true) (hv : s.vars = []) (hr : f.resultTypes = #[tb]) (htb : P.underlying tb = some .bool)
    (hW : DataW.Whole enc P f.params.toList s.vars apart W args.toList ds gs before) (hb : Below W.heap.size W W')
    (hres : (s.fn H (ds ++ gs)).results = [.lit (.bool true)]) (hargs : (s.fn H (ds ++ gs)).args = ds) (hvars : (s.fn H (ds ++ gs)).vars = []) :
    s.post enc P f apart fresh handsOn again W args (.bool true) W' := by
  have hlt := hW.lt
  have hW0 := hW
  obtain ⟨p, q, hA, hV, rfl, hz, hn⟩ := hW
  rw [hv] at hV
  obtain ⟨rfl, rfl⟩ := trodVars_none hV
  have hz0 := hz
  have hn0 := hn
  rw [List.append_nil] at hlt hz0 hn0
  have hok : ∀ (j : Nat) (t : TypeId) (r : Value), f.resultTypes[j]? = some t → ((Value.bool true).resultList f.resultTypes.size)[j]? = some r → Value.okWide P W' .any 0 t r := ok_one hr rfl (by
    simp [Value.okWide, htb, Cell.okWide, Cell.ok])
  have hA' : ∀ sp : Nat → Bool, (∀ x ∈ p, sp x.block = true) → DataW.TrodAll enc P W' 0 sp true f.params.toList args.toList (s.fn H (ds ++ [])).args p := fun sp hsp => by
    rw [hargs]; exact all_below hl hb ht hA hlt hsp
  have hR : ∀ (b : Nat) (sp : Nat → Bool) (hd : Bool), DataW.TrodAll enc P W' b sp hd f.resultTypes.toList ((Value.bool true).resultList f.resultTypes.size) (s.fn H (ds ++ [])).results [] := fun b sp hd => by
    rw [hres, hr]; exact trodAll_mk1 (shut_bool htb true)
  have hA1 := hA' (fun b => decide (b < W.heap.size)) (fun x hx => decide_eq_true (hlt x hx))
  refine ⟨ds, [], p ++ [], [], p, [], hW0, hR _ _ _, hA1, ?_, ?_, fun _ => ?_⟩
  · rw [hv, hvars]; exact rfl
  · exact hb.frame _
  · refine ⟨hok, _, [], ([] ++ p) ++ [], ⟨[] ++ p, [], trodAll_append (hA' _ (fun _ _ => rfl)) (hR _ _ _), ?_, rfl, ?_, ?_⟩, ?_⟩
    · rw [hv]; exact rfl
    · intro b off hp
      have hp' : MemPlace.cell b off ∈ p := by simpa using hp
      rw [hb.frozen (p := ⟨b, off, none⟩) (hlt _ hp')]
      exact hz0 b off hp'
    · intro ha
      simpa using hn0 ha
    · intro x hx _
      simpa using hx
theorem int_arg {P : Program} {w : World} {r : Reach} {base : Nat} {t : TypeId} {k : IntKind} {v : Value} (ht : P.underlying t = some (.int k)) (h : Value.okWide P w r base t v) : ∃ n : Int, v = .int k n ∧ k.has n := by
  unfold Value.okWide at h
  rw [ht] at h
  unfold Cell.okWide at h
  rw [ht] at h
  unfold Cell.ok at h
  rw [ht] at h
  cases v <;> simp at h
  obtain ⟨h1, h2⟩ := h
  subst h1
  exact ⟨_, rfl, h2⟩
theorem i64_arg {P : Program} {w : World} {r : Reach} {base : Nat} {t : TypeId} {v : Value} (ht : P.underlying t = some (.int .i64)) (h : Value.okWide P w r base t v) :
    ∃ n : Int, v = .int .i64 n ∧ -9223372036854775808 ≤ n ∧ n < 9223372036854775808 := by
  obtain ⟨n, rfl, h2⟩ := int_arg ht h
  have e0 : IntKind.i64.min = -9223372036854775808 := rfl
  have e1 : IntKind.i64.max = 9223372036854775807 := rfl
  rw [IntKind.has, e0, e1] at h2
  exact ⟨n, rfl, by omega, by omega⟩
section
variable {H : Type} {enc : TypeId × Value → H} {P : Program} {w : World} {base : Nat} {spare : Nat → Bool} {held : Bool}
theorem trodAll_five {t0 t1 t2 t3 t4 : TypeId} {args : Array Value} {ds : List (DataW H)} {ps : List MemPlace} (h : DataW.TrodAll enc P w base spare held [t0, t1, t2, t3, t4] args.toList ds ps) :
    ∃ v0 v1 v2 v3 v4 d0 d1 d2 d3 d4 p0 p1 p2 p3 p4, args = #[v0, v1, v2, v3, v4] ∧ ds = [d0, d1, d2, d3, d4] ∧ ps = p0 ++ p1 ++ p2 ++ p3 ++ p4 ∧ DataW.Trod enc P w base spare held t0 v0 d0 p0 ∧ DataW.Trod enc P w base spare held t1 v1 d1 p1 ∧ DataW.Trod enc P w base spare held t2 v2 d2 p2 ∧ DataW.Trod enc P w base spare held t3 v3 d3 p3 ∧ DataW.Trod enc P w base spare held t4 v4 d4 p4 := by
  obtain ⟨v0, vs, d0, e0, p0, q0, hargs, rfl, rfl, h0, r0⟩ := trodAll_cons h
  obtain ⟨v1, vs1, d1, e1, p1, q1, rfl, rfl, rfl, h1, r1⟩ := trodAll_cons r0
  obtain ⟨v2, vs2, d2, e2, p2, q2, rfl, rfl, rfl, h2, r2⟩ := trodAll_cons r1
  obtain ⟨v3, vs3, d3, e3, p3, q3, rfl, rfl, rfl, h3, r3⟩ := trodAll_cons r2
  obtain ⟨v4, vs4, d4, e4, p4, q4, rfl, rfl, rfl, h4, r4⟩ := trodAll_cons r3
  obtain ⟨rfl, rfl, rfl⟩ := trodAll_nil r4
  exact ⟨v0, v1, v2, v3, v4, d0, d1, d2, d3, d4, p0, p1, p2, p3, p4, by cases args; simp_all, rfl, by simp, h0, h1, h2, h3, h4⟩
end
theorem laidVars_mem {P : Program} {w : World} : ∀ {l : List (String × DataW Unit)} {ps : List MemPlace}, DataW.LaidVars P w l ps → ∀ n d, (n, d) ∈ l →
    ∃ g t cs fuel p, P.globalNamed n = some g ∧ (P.globals[g]?).map (·.type) = some t ∧ w.var? P n = some cs ∧ DataW.trod (fun _ => ()) P w 0 (fun _ => true) false fuel t cs.toList = some (d, p) ∧ ∀ i, i < cs.size → MemPlace.cell g i ∈ ps
  | [], _, _, _, _, hm => by cases hm
  | (n', d') :: r, ps, h, n, d, hm => by
    obtain ⟨g, t, cs, fuel, p, q, h1, h2, h3, h4, h5, rfl⟩ := h
    rcases List.mem_cons.1 hm with e | e
    · cases e
      refine ⟨g, t, cs, fuel, p, h1, h2, h3, h4, fun i hi => List.mem_append_left _ (List.mem_append_left _ (List.mem_map.2 ⟨i, List.mem_range.2 hi, ?_⟩))⟩
      simp
    · obtain ⟨g', t', cs', fuel', p', a1, a2, a3, a4, a5⟩ := laidVars_mem h5 n d e
      exact ⟨g', t', cs', fuel', p', a1, a2, a3, a4, fun i hi => List.mem_append_right _ (a5 i hi)⟩
theorem laid_heap {P : Program} {W : World} {l : List (String × DataW Unit)} (h : laidMet P l W) {n : String} {d : DataW Unit} (hm : (n, d) ∈ l) :
    ∃ g t cs fuel p, P.globalNamed n = some g ∧ (P.globals[g]?).map (·.type) = some t ∧ DataW.trod (fun _ => ()) P W 0 (fun _ => true) false fuel t cs.toList = some (d, p) ∧ (0 < cs.size → ∃ ty, W.heap[g]? = some (.cells cs ty (0, 0))) := by
  obtain ⟨ps, hv, _, hfz⟩ := h
  obtain ⟨g, t, cs, fuel, p, h1, h2, h3, h4, h5⟩ := laidVars_mem hv n d hm
  refine ⟨g, t, cs, fuel, p, h1, h2, h4, fun hc => ?_⟩
  obtain ⟨c, ty, hh⟩ := (hfz g 0 (h5 0 hc)).1
  unfold World.var? at h3
  rw [h1] at h3
  simp only [Option.bind_some, hh, Option.some.injEq] at h3
  exact ⟨ty, by rw [hh, h3]⟩
theorem laid_tab {P : Program} {W : World} {l : List (String × DataW Unit)} (h : laidMet P l W) {n : String} {k : IntKind} {zs : List Int} {g : Nat} {t e : TypeId} {len : Nat} (hm : (n, tabData k zs) ∈ l)
    (hg : P.globalNamed n = some g) (ht : (P.globals[g]?).map (·.type) = some t) (hu : P.underlying t = some (.array len e)) (he : P.underlying e = some (.int k)) (hce : P.cellsOf e = 1) (hct : P.cellsOf t = len) (hz : 0 < zs.length) :
    ∃ ty, W.heap[g]? = some (.cells (zs.map fun z => Value.int k z).toArray ty (0, 0)) := by
  obtain ⟨g', t', cs, fuel, p, h1, h2, h3, h4⟩ := laid_heap h hm
  obtain rfl := Option.some.inj (hg.symm.trans h1)
  obtain rfl := Option.some.inj (ht.symm.trans h2)
  have hcs := cells_of_tab hu he hce hct h3
  have hl : cs.size = zs.length := by
    have := congrArg List.length hcs
    simpa using this
  obtain ⟨ty, hh⟩ := h4 (by omega)
  refine ⟨ty, hh.trans ?_⟩
  rw [← hcs]
theorem laid_accept {P : Program} {W : World} {l : List (String × DataW Unit)} (h : laidMet P l W) {n : String} {g : Nat} {t e b : TypeId} {f0 f1 : Field} (hm : (n, acceptData) ∈ l)
    (hg : P.globalNamed n = some g) (ht : (P.globals[g]?).map (·.type) = some t) (hu : P.underlying t = some (.array 16 e)) (he : P.underlying e = some (.struct #[f0, f1])) (o0 : f0.offset = 0) (o1 : f1.offset = 1) (t0 : f0.type = b) (t1 : f1.type = b)
    (hb : P.underlying b = some (.int .u8)) (cb : P.cellsOf b = 1) (ce : P.cellsOf e = 2) (ct : P.cellsOf t = 32) :
    ∃ ty, W.heap[g]? = some (.cells ((List.range 32).map fun c => Value.int .u8 (if c % 2 = 0 then accLo (c / 2) else accHi (c / 2))).toArray ty (0, 0)) := by
  obtain ⟨g', t', cs, fuel, p, h1, h2, h3, h4⟩ := laid_heap h hm
  obtain rfl := Option.some.inj (hg.symm.trans h1)
  obtain rfl := Option.some.inj (ht.symm.trans h2)
  have key : ∀ i, i < 16 → cs[2 * i]? = some (.int .u8 (accLo i)) ∧ cs[2 * i + 1]? = some (.int .u8 (accHi i)) := fun i hi => by
    obtain ⟨fuel', d, q, hdi, hel⟩ := array_elem hu h3 i hi
    simp only [List.getElem?_map, List.getElem?_range hi, Option.map_some, Option.some.injEq] at hdi
    subst hdi
    rw [ce] at hel
    have hcs := ints_of_struct he (fun j f hj => by
      match j, hj with
      | 0, hj => simp at hj; subst hj; exact ⟨by rw [t0]; exact hb, o0, by rw [t0]; exact cb⟩
      | 1, hj => simp at hj; subst hj; exact ⟨by rw [t1]; exact hb, o1, by rw [t1]; exact cb⟩
      | j + 2, hj => simp at hj) (by rw [ce]; rfl) hel
    have e0 := congrArg (·[0]?) hcs
    have e1 := congrArg (·[1]?) hcs
    simp only [List.getElem?_take, List.getElem?_drop] at e0 e1
    constructor
    · rw [← Array.getElem?_toList]; simpa [Nat.mul_comm] using e0
    · rw [← Array.getElem?_toList]; simpa [Nat.mul_comm] using e1
  have hsz : cs.size = 32 := by
    obtain ⟨xs, m1, _, _, hlen, _, _⟩ := DataW.trod_array hu h3
    rw [ct] at hlen
    simpa using hlen
  obtain ⟨ty, hh⟩ := h4 (by omega)
  refine ⟨ty, hh.trans ?_⟩
  congr 2
  apply Array.ext_getElem?
  intro j
  by_cases hj : j < 32
  · obtain ⟨k1, k2⟩ := key (j / 2) (by omega)
    simp only [List.getElem?_toArray, List.getElem?_map, List.getElem?_range hj, Option.map_some]
    by_cases hm2 : j % 2 = 0
    · rw [if_pos hm2]
      rw [show 2 * (j / 2) = j by omega] at k1
      exact k1
    · rw [if_neg hm2]
      rw [show 2 * (j / 2) + 1 = j by omega] at k2
      exact k2
  · rw [Array.getElem?_eq_none (by omega), Array.getElem?_eq_none (by simp; omega)]
theorem bool_arg {P : Program} {w : World} {r : Reach} {base : Nat} {t : TypeId} {v : Value} (ht : P.underlying t = some .bool) (h : Value.okWide P w r base t v) : ∃ b, v = .bool b := by
  simp only [Value.okWide, ht, Cell.okWide, Cell.ok] at h
  cases v <;> first | exact ⟨_, rfl⟩ | (simp at h)
end Go.Fx
