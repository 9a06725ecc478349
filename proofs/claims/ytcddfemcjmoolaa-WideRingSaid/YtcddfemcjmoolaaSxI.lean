/-
  A symbolic executor for the model's code, ninth part: calls that are walked into, rounds; contracts.
-/
import Derived.Test.YtcddfemcjmoolaaSxH
namespace Go.Sx
open Go Go.RowKit

def svArgs : Nat → List SV → List (Nat × SV)
  | _, [] => []
  | i, v :: r => (i, v) :: svArgs (i + 1) r

def capSVs : List (Nat × Nat) → List SV
  | [] => []
  | p :: r => .ptr p.1 p.2 :: capSVs r

def resOne (P : Program) (S : St) : ResultVar → Option SV
  | .tmp t => look S.ts t
  | .cell t ty => match look S.ts t with
    | some (.ptr b off) => match look S.bs b with
      | some (c, _) => loadC P ty c off
      | none => none
    | _ => none

def resAll (P : Program) (S : St) : List ResultVar → Option (List SV)
  | [] => some []
  | x :: r => match resOne P S x, resAll P S r with
    | some v, some l => some (v :: l)
    | _, _ => none

def resTup (P : Program) (S : St) (l : List ResultVar) : Option SV :=
  match resAll P S l with
  | some [x] => some x
  | some l => match plainVs l with
    | some vs => some (.v (.tuple vs.toArray))
    | none => none
  | none => none

def zipPut : List Tmp → List SV → List (Nat × SV) → List (Nat × SV)
  | t :: r, x :: l, ts => zipPut r l ((t, x) :: ts)
  | _, _, ts => ts

def jumpOf : Out → Option Code
  | .normal => none
  | .ret => some .ret
  | .exit id => some (.exit id)
  | .goto l => some (.goto l)

def stOf : Option Code → LoopState
  | none => .ready
  | some _ => .done

def allLt (N : Nat) : List Tmp → Bool
  | [] => true
  | t :: r => Nat.blt t N && allLt N r

def inlineCall (P : Program) (code : Sub) (g : Nat) (caps : List (Nat × Nat)) (args : List SV) (S : St) (ds : List Dec) (cnt : Nat) : Option IRes :=
  match P.funcs[g]? with
  | none => none
  | some fn => match fn.body with
    | none => none
    | some c => bif fn.name == "runtime.NumGoroutine" then none else
      bif Nat.ble (args.length + caps.length) fn.ntmps then
        match code fn.ntmps false c { S with ts := svArgs 0 (args ++ capSVs caps) } ds cnt 0 with
        | some ⟨.normal, Sf, ds1, ps1, c1, _⟩ => match resTup P Sf fn.results.toList with
          | some x => some ⟨x, { Sf with ts := S.ts }, ds1, ps1, c1⟩
          | none => none
        | some ⟨.ret, Sf, ds1, ps1, c1, _⟩ => match resTup P Sf fn.results.toList with
          | some x => some ⟨x, { Sf with ts := S.ts }, ds1, ps1, c1⟩
          | none => none
        | _ => none
      else none

def yieldCall (code : Sub) (l : Nat) (args : List SV) (S : St) (ds : List Dec) (cnt : Nat) : Option IRes :=
  match look S.ls l with
  | none => none
  | some q =>
    bif Nat.beq args.length q.params.length && allLt q.N q.params then
      match code q.N true q.asg { S with ts := zipPut q.params args q.ts } ds cnt 0 with
      | some ⟨.normal, Sb, ds1, ps1, c1, 0⟩ => match look Sb.ls l with
        | none => none
        | some qb => match qb.st with
          | .ready =>
            match code q.N true q.body { Sb with ls := (l, { qb with st := .busy }) :: Sb.ls } ds1 c1 0 with
            | some ⟨o, Sd, ds2, ps2, c2, 0⟩ => match look Sd.ls l with
              | none => none
              | some qd =>
                some ⟨.v (.bool (jumpOf o).isNone), { Sd with ts := S.ts, ls := (l, { qd with st := stOf (jumpOf o), pend := jumpOf o }) :: Sd.ls }, ds2, ps1 ++ ps2, c2⟩
            | _ => none
          | _ => none
      | _ => none
    else none

def bigOf (P : Program) (code : Sub) : Big := fun f args S ds cnt =>
  match f with
  | .fn g caps => inlineCall P code g caps args S ds cnt
  | .yld l => yieldCall code l args S ds cnt
  | _ => none

section
variable {P : Program}

theorem resOne_run {w0 : World} {B N : Nat} {O : Nat → Prop} {m : Nat} {β : Ren} {S : St} {a : Act} {W : World} {x : ResultVar} {y : SV} (h : R β w0 B N O m S a W) (hr : resOne P S x = some y) :
    ∃ v, den β y = some v ∧ ((match x with
      | .tmp t => pure (a.tmps.getD t undef)
      | .cell t ty => do loadVar ty (← asAddr (a.tmps.getD t undef)) : Sem Value)).run P W = .ok v W := by
  have get : ∀ {t : Nat} {v : Value}, a.tmps[t]? = some v → a.tmps.getD t undef = v := fun ht => by
    obtain ⟨h1, h2⟩ := Array.getElem?_eq_some_iff.1 ht
    simp [Array.getD, h1, h2]
  cases x with
  | tmp t =>
    obtain ⟨u, hu, ht⟩ := h.ts t _ hr
    exact ⟨u, hu, by simp only [get ht]; rfl⟩
  | cell t ty =>
    simp only [resOne] at hr
    split at hr
    · rename_i b off hl
      split at hr
      · rename_i c ty' hb
        obtain ⟨u, hu, ht⟩ := h.ts t _ hl
        obtain ⟨k, cells, hk, hc, hh⟩ := h.bs _ _ _ hb
        simp only [den, adr, hk, Option.map_some, Option.some.injEq] at hu
        subst hu
        obtain ⟨z, hz, hload⟩ := loadC_run (P := P) hc hh hr
        exact ⟨z, hz, by simp [get ht, asAddr, hload]⟩
      · cases hr
    · cases hr

theorem resTup_run {w0 : World} {B N : Nat} {O : Nat → Prop} {m : Nat} {β : Ren} {S : St} {a : Act} {W : World} {fn : Func} {y : SV} (h : R β w0 B N O m S a W) (hr : resTup P S fn.results.toList = some y) :
    ∃ v, den β y = some v ∧ (results fn a.tmps).run P W = .ok v W := by
  have key : ∀ (xs : List ResultVar) (l : List SV), resAll P S xs = some l → ∃ vs, dens β l = some vs ∧
      (xs.mapM (fun
        | .tmp t => pure (a.tmps.getD t undef)
        | .cell b t => do loadVar t (← asAddr (a.tmps.getD b undef)) : ResultVar → Sem Value)).run P W = .ok vs W := by
    intro xs
    induction xs with
    | nil => intro l hl; simp only [resAll, Option.some.injEq] at hl; subst hl; exact ⟨[], rfl, rfl⟩
    | cons x r ih =>
      intro l hl
      simp only [resAll] at hl
      split at hl
      · rename_i v l' hv hl'
        simp only [Option.some.injEq] at hl; subst hl
        obtain ⟨u, hu, h1⟩ := resOne_run h hv
        obtain ⟨us, hus, ih'⟩ := ih l' hl'
        refine ⟨u :: us, by simp [dens, hu, hus], ?_⟩
        simp only [List.mapM_cons, Sem.run_bind]
        cases x <;> simp only at h1 <;> simp only [Sem.run_bind] at h1 ⊢ <;> rw [h1] <;> simp only [Result.andThen_ok] <;> rw [ih'] <;> rfl
      · cases hl
  have fin : ∀ l vs, resAll P S fn.results.toList = some l → dens β l = some vs →
      (fn.results.toList.mapM (fun
        | .tmp t => pure (a.tmps.getD t undef)
        | .cell b t => do loadVar t (← asAddr (a.tmps.getD b undef)) : ResultVar → Sem Value)).run P W = .ok vs W →
      (results fn a.tmps).run P W = .ok (if h : vs.toArray.size = 1 then vs.toArray[0] else .tuple vs.toArray) W := by
    intro l vs _ _ hk
    unfold results
    simp only [Sem.run_bind]
    rw [Array.mapM_eq_mapM_toList, Sem.run_map]
    generalize hq : Sem.run P (List.mapM _ fn.results.toList) W = q
    obtain rfl : q = .ok vs W := hq.symm.trans hk
    rfl
  unfold resTup at hr
  split at hr
  · rename_i x hl
    simp only [Option.some.injEq] at hr; subst hr
    obtain ⟨vs, hvs, hk⟩ := key _ _ hl
    have hres := fin _ _ hl hvs hk
    simp only [dens] at hvs
    split at hvs
    · rename_i v l' hv hl'
      simp only [Option.some.injEq] at hl' hvs
      subst hl'
      subst hvs
      exact ⟨v, hv, by simpa using hres⟩
    · cases hvs
  · rename_i l hne hl
    split at hr
    · rename_i ys hys
      simp only [Option.some.injEq] at hr; subst hr
      obtain ⟨vs, hvs, hk⟩ := key _ _ hl
      have hres := fin _ _ hl hvs hk
      have e := dens_plain hys hvs
      subst e
      refine ⟨_, rfl, ?_⟩
      have hlen := dens_length hvs
      have : ¬ vs.toArray.size = 1 := by
        intro h1
        simp only [List.size_toArray] at h1
        rw [h1] at hlen
        match l, hlen with
        | [x], _ => exact hne x rfl
      rw [dif_neg this] at hres
      exact hres
    · cases hr
  · cases hr

/-- A frame that is entered. -/
theorem R.enter {w0 : World} {B N : Nat} {O : Nat → Prop} {m : Nat} {β : Ren} {S : St} {a : Act} {W : World} (h : R β w0 B N O m S a W) {ts : List (Nat × SV)} {tmps : Array Value} {N' : Nat}
    (hts : ∀ t x, look ts t = some x → ∃ v, den β x = some v ∧ tmps[t]? = some v) (hN : tmps.size = N') :
    R β W W.heap.size N' (fun b => ∃ k, β b = some k) 0 { S with ts := ts } { tmps := tmps, defers := [] } W where
  ts := hts
  bs := h.bs
  ls := h.ls
  dom := h.dom
  lt := h.lt
  inj := h.inj
  glob := h.glob
  old := fun _ _ _ => rfl
  nold := fun _ k hb _ => ⟨k, hb⟩
  hB := Nat.le_refl _
  os := rfl
  tape := rfl
  output := rfl
  size := hN
  dfr := ⟨[], rfl, rfl, .nil, by simp⟩

/-- Back in the frame below. -/
theorem R.back {w0 : World} {B N N' : Nat} {O : Nat → Prop} {m m' : Nat} {β β' : Ren} {S S' : St} {a a' : Act} {W W' : World} (h : R β w0 B N O m S a W)
    (h' : R β' W W.heap.size N' (fun b => ∃ k, β b = some k) m' S' a' W') (hE : Ext β β') : R β' w0 B N O m { S' with ts := S.ts } a W' where
  ts := fun t x hx => by obtain ⟨v, hv, ht⟩ := h.ts t x hx; exact ⟨v, den_mono hE hv, ht⟩
  bs := h'.bs
  ls := h'.ls
  dom := h'.dom
  lt := h'.lt
  inj := h'.inj
  glob := h'.glob
  old := fun k hk hb => (h'.old k (by have := h.hB; omega) hb).trans (h.old k hk (fun b hb' => hb b (hE b k hb')))
  nold := fun b k hb hk => by
    obtain ⟨k', hk'⟩ := h'.nold b k hb (by have := h.hB; omega)
    have := hE b k' hk'
    rw [hb] at this
    simp only [Option.some.injEq] at this
    subst this
    exact h.nold b k hk' hk
  hB := Nat.le_trans h.hB h'.hB
  os := h'.os.trans h.os
  tape := h'.tape.trans h.tape
  output := h'.output.trans h.output
  size := h.size
  dfr := by
    obtain ⟨ks, h1, h2, h3, h4⟩ := h.dfr
    refine ⟨ks, h1, h2, h3, fun k hk => ?_⟩
    obtain ⟨g1, g2, g3⟩ := h4 k hk
    have hlt := (Array.getElem?_eq_some_iff.1 g3).1
    have hno : ∀ b, β' b ≠ some k := by
      intro b hb
      obtain ⟨k', hk'⟩ := h'.nold b k hb hlt
      have := hE b k' hk'
      rw [hb] at this
      simp only [Option.some.injEq] at this
      subst this
      exact g2 b hk'
    exact ⟨g1, hno, (h'.old k hlt hno).trans g3⟩

/-- The last mark is taken. -/
theorem R.unmark {w0 : World} {B N : Nat} {O : Nat → Prop} {m : Nat} {β : Ren} {S : St} {a : Act} {W : World} (h : R β w0 B N O (m + 1) S a W) :
    ∃ k ds, a.defers = Sx.mark k :: ds ∧ (Instr.takeDeferred k).run P W = .ok [] (W.putObj k (.deferred none)) ∧ R β w0 B N O m S { a with defers := ds } (W.putObj k (.deferred none)) := by
  obtain ⟨ks, h1, h2, h3, h4⟩ := h.dfr
  cases ks with
  | nil => simp at h1
  | cons k ks =>
    obtain ⟨g1, g2, g3⟩ := h4 k (by simp)
    refine ⟨k, ks.map Sx.mark, by simpa using h2, run_takeDeferred g3, ?_⟩
    have oth : ∀ {j : Nat}, j ≠ k → (W.putObj k (.deferred none)).heap[j]? = W.heap[j]? := fun hj => World.putObj_heap_other hj
    have nam : ∀ {b j : Nat}, β b = some j → j ≠ k := fun hb e => g2 _ (e ▸ hb)
    exact { h with
      ts := h.ts
      bs := fun b c ty hb => by
        obtain ⟨j, cs, hj, hcs, hh⟩ := h.bs b c ty hb
        exact ⟨j, cs, hj, hcs, (oth (nam hj)).trans hh⟩
      ls := fun l q hl => by
        obtain ⟨j, r, hj, hh, hr⟩ := h.ls l q hl
        exact ⟨j, r, hj, (oth (nam hj)).trans hh, hr⟩
      lt := fun b j hb => by rw [World.putObj_size]; exact h.lt b j hb
      old := fun j hj hb => (oth (by omega)).trans (h.old j hj hb)
      hB := by rw [World.putObj_size]; exact h.hB
      os := h.os
      tape := h.tape
      output := h.output
      size := h.size
      dfr := by
        refine ⟨ks, by simpa using h1, rfl, (List.nodup_cons.1 h3).2, fun j hj => ?_⟩
        obtain ⟨f1, f2, f3⟩ := h4 j (by simp [hj])
        have hne : j ≠ k := fun e => (List.nodup_cons.1 h3).1 (e ▸ hj)
        exact ⟨f1, f2, (oth hne).trans f3⟩ }

/-- A function's way out: its marks are taken, its results are read. -/
theorem leaves {F : Fence} {n : Nat} {fn : Func} {S : St} {y : SV} (hr : resTup P S fn.results.toList = some y) {w0 : World} {B N : Nat} {O : Nat → Prop} {β : Ren} {Rr : Ending → World → Prop} :
    ∀ (m : Nat) {a : Act} {W : World}, R β w0 B N O m S a W → (∀ v W' a', R β w0 B N O 0 S a' W' → den β y = some v → Rr (.returned v) W') → LeavesInM F n P fn a.tmps Rr a.defers .returning W := by
  intro m
  induction m with
  | zero =>
    intro a W h hR
    obtain ⟨ks, h1, h2, _, _⟩ := h.dfr
    obtain rfl : ks = [] := List.length_eq_zero_iff.1 h1
    rw [h2]
    obtain ⟨v, hv, hres⟩ := resTup_run h hr
    exact ⟨v, hres, hR v W a h hv⟩
  | succ m ih =>
    intro a W h hR
    obtain ⟨k, ds, hd, htake, hR'⟩ := h.unmark (P := P)
    rw [hd]
    exact ⟨by simp, .inl ⟨k, _, rfl, htake, ih hR' hR⟩⟩

theorem svArgs_look : ∀ (l : List SV) (i t : Nat) (x : SV), look (svArgs i l) t = some x → i ≤ t ∧ l[t - i]? = some x
  | [], i, t, x, h => by simp [svArgs, look] at h
  | v :: r, i, t, x, h => by
    simp only [svArgs] at h
    rw [look_cons] at h
    by_cases e : i = t
    · subst e
      simp only [if_true, Option.some.injEq] at h
      exact ⟨Nat.le_refl _, by simp [h]⟩
    · rw [if_neg e] at h
      obtain ⟨h1, h2⟩ := svArgs_look r (i + 1) t x h
      refine ⟨by omega, ?_⟩
      rw [show t - i = (t - (i + 1)) + 1 from by omega]
      simpa using h2

theorem args_ts {β : Ren} {l : List SV} {vs : List Value} {N : Nat} (hl : dens β l = some vs) : ∀ t x, look (svArgs 0 l) t = some x → ∃ v, den β x = some v ∧ (vs.toArray ++ Array.replicate (N - vs.toArray.size) undef)[t]? = some v := by
  intro t x hx
  obtain ⟨_, hx⟩ := svArgs_look _ _ _ _ hx
  rw [Nat.sub_zero] at hx
  obtain ⟨v, hv, ht⟩ := dens_get hl hx
  refine ⟨v, hv, ?_⟩
  have hlt : t < vs.length := (List.getElem?_eq_some_iff.1 ht).1
  rw [Array.getElem?_append_left (by simpa using hlt)]
  simpa using ht

theorem capSVs_den {β : Ren} : ∀ {caps : List (Nat × Nat)} {vs : List Value}, adrs β caps = some vs → dens β (capSVs caps) = some vs
  | [], vs, h => h
  | p :: r, vs, h => by
    simp only [adrs] at h
    split at h
    · rename_i v l hv hl
      simp only [Option.some.injEq] at h; subst h
      simp [capSVs, dens, den, hv, capSVs_den hl]
    · cases h

theorem inlineCall_calls {code : Sub} (hc : CodeOk P code) {g : Nat} {caps : List (Nat × Nat)} {args : List SV} {S : St} {ds : List Dec} {cnt : Nat} {r : IRes} (he : inlineCall P code g caps args S ds cnt = some r)
    (hp : ∀ p ∈ r.ps, p) {w0 : World} {B N : Nat} {O : Nat → Prop} {m : Nat} {β : Ren} {a : Act} {W : World} {argvs capvs : List Value} (h : R β w0 B N O m S a W) (ha : dens β args = some argvs) (hcap : adrs β caps = some capvs) :
    Calls P g (argvs ++ capvs).toArray W (fun e W' => ∃ v β', e = .returned v ∧ Ext β β' ∧ R β' w0 B N O m r.S a W' ∧ den β' r.x = some v) ∧ funOk P g = true := by
  unfold inlineCall at he
  split at he
  · cases he
  · rename_i fn hf
    split at he
    · cases he
    · rename_i c hb
      cases hn : (fn.name == "runtime.NumGoroutine") with
      | true => rw [hn] at he; cases he
      | false =>
        rw [hn] at he
        simp only [cond_false] at he
        cases hle : Nat.ble (args.length + caps.length) fn.ntmps with
        | false => rw [hle] at he; cases he
        | true =>
          rw [hle] at he
          simp only [cond_true] at he
          have hall : dens β (args ++ capSVs caps) = some (argvs ++ capvs) := dens_append ha (capSVs_den hcap)
          have hlen : (argvs ++ capvs).length ≤ fn.ntmps := by
            have h1 := dens_length hall
            have h2 : (capSVs caps).length = caps.length := by
              clear he hcap hall h1 hle hp
              induction caps with
              | nil => rfl
              | cons p r ih => simp [capSVs, ih]
            rw [← h1, List.length_append, h2]
            exact Nat.le_of_ble_eq_true hle
          refine ⟨?_, by simp [funOk, hf, hb, hn]⟩
          have hR0 := h.enter (N' := fn.ntmps) (args_ts (N := fn.ntmps) hall) (by simp; simp at hlen; omega)
          have main : ∀ {o : Out} {Sf : St} {ds1 : List Dec} {ps1 : List Prop} {c1 mk : Nat} {x : SV}, code fn.ntmps false c { S with ts := svArgs 0 (args ++ capSVs caps) } ds cnt 0 = some ⟨o, Sf, ds1, ps1, c1, mk⟩ → (o = .normal ∨ o = .ret) →
              resTup P Sf fn.results.toList = some x → (∀ p ∈ ps1, p) →
              Calls P g (argvs ++ capvs).toArray W (fun e W' => ∃ v β', e = .returned v ∧ Ext β β' ∧ R β' w0 B N O m { Sf with ts := S.ts } a W' ∧ den β' x = some v) := by
            intro o Sf ds1 ps1 c1 mk x hcode ho hres hps
            rw [← callsIn_wide (n := 0)]
            refine callsIn_of_wp_marks hf hb trivial ?_ rfl
            refine hc.go hcode hps Loose.wide (fun _ => rfl) hR0 fun β' a' W' hE hR => ?_
            have goal : LeavesInM Fence.wide 0 P fn a'.tmps (fun e W' => ∃ v β', e = .returned v ∧ Ext β β' ∧ R β' w0 B N O m { Sf with ts := S.ts } a W' ∧ den β' x = some v) a'.defers .returning W' :=
              leaves hres mk hR fun v W2 a2 hR2 hv => ⟨v, β', rfl, hE, h.back hR2 hE, hv⟩
            rcases ho with rfl | rfl <;> exact goal
          split at he
          · rename_i Sf ds1 ps1 c1 mk hcode
            split at he
            · rename_i x hres
              simp only [Option.some.injEq] at he; subst he
              exact main hcode (.inl rfl) hres hp
            · cases he
          · rename_i Sf ds1 ps1 c1 mk hcode
            split at he
            · rename_i x hres
              simp only [Option.some.injEq] at he; subst he
              exact main hcode (.inr rfl) hres hp
            · cases he
          · cases he

theorem fenced_loose {F : Fence} (hF : Loose F) (m : Machine) : m.fenced P F := by
  intro g _
  refine ⟨fun h => ?_, Or.inl (by rw [hF.fn]; trivial), fun _ _ => by rw [hF.fn]; trivial, fun _ h => ?_⟩
  · rw [hF.alive] at h; cases h
  · rw [hF.depth] at h; cases h

theorem callsIn_loose {F : Fence} {n : Nat} {f : FuncId} {args : Array Value} {w : World} {R : Ending → World → Prop} (hF : Loose F) (h : Calls P f args w R) : CallsIn F n P f args w R := by
  refine ⟨by rw [hF.fn]; trivial, fun cs _ => ?_⟩
  obtain ⟨e, w', fr, r, s, x⟩ := h cs
  refine ⟨e, w', fr, r, ?_, x⟩
  cases e with
  | returned v => exact (StepsIn.of_steps s).mono fun m _ => fenced_loose hF m
  | panicked chain => exact (StepsIn.of_steps s).mono fun m _ => fenced_loose hF m
  | outgrown => exact s

theorem zipPut_spec {β : Ren} {N : Nat} : ∀ {ps : List Tmp} {args : List SV} {vs : List Value} {ts : List (Nat × SV)} {tmps : Array Value}, dens β args = some vs → ps.length = args.length → allLt N ps = true → tmps.size = N →
    (∀ t x, look ts t = some x → ∃ v, den β x = some v ∧ tmps[t]? = some v) →
    (∀ t x, look (zipPut ps args ts) t = some x → ∃ v, den β x = some v ∧ ((ps.zip vs).foldl (fun tmps (t, a) => tmps.setIfInBounds t a) tmps)[t]? = some v) ∧
      ((ps.zip vs).foldl (fun tmps (t, a) => tmps.setIfInBounds t a) tmps).size = N
  | [], [], vs, ts, tmps, _, _, _, hs, h => ⟨by simpa [zipPut] using h, by simpa using hs⟩
  | [], _ :: _, _, _, _, _, hl, _, _, _ => by simp at hl
  | _ :: _, [], _, _, _, _, hl, _, _, _ => by simp at hl
  | p :: ps, x :: args, vs, ts, tmps, hd, hl, hlt, hs, h => by
    simp only [dens] at hd
    split at hd
    · rename_i v l hv hl'
      simp only [Option.some.injEq] at hd; subst hd
      simp only [allLt, Bool.and_eq_true] at hlt
      have hp : p < tmps.size := by rw [hs]; simpa [Nat.blt_eq] using hlt.1
      simp only [zipPut, List.zip_cons_cons, List.foldl_cons]
      refine zipPut_spec hl' (by simpa using hl) hlt.2 (by simpa using hs) ?_
      intro t y hy
      rw [look_cons] at hy
      by_cases e : p = t
      · subst e
        simp only [if_true, Option.some.injEq] at hy
        subst hy
        exact ⟨v, hv, by simp [hp]⟩
      · rw [if_neg e] at hy
        obtain ⟨u, hu, ht⟩ := h t y hy
        exact ⟨u, hu, by rw [Array.getElem?_setIfInBounds_ne e]; exact ht⟩
    · cases hd

theorem yieldCall_round {code : Sub} (hc : CodeOk P code) {l : Nat} {args : List SV} {S : St} {ds : List Dec} {cnt : Nat} {r : IRes} (he : yieldCall code l args S ds cnt = some r) (hp : ∀ p ∈ r.ps, p)
    {F : Fence} {n : Nat} {w0 : World} {B N : Nat} {O : Nat → Prop} {m : Nat} {β : Ren} {a : Act} {W : World} {argvs : List Value} {k : Nat} (hF : Loose F) (h : R β w0 B N O m S a W) (ha : dens β args = some argvs) (hk : β l = some k) :
    ∃ fn tmps asg body, (Instr.yield k argvs.toArray).run P W = .ok (.round k fn tmps asg body) W ∧
      RoundIn F n P k fn tmps asg body W (fun e W' => ∃ v β', e = .returned v ∧ Ext β β' ∧ R β' w0 B N O m r.S a W' ∧ den β' r.x = some v) := by
  unfold yieldCall at he
  split at he
  · cases he
  · rename_i q hq
    cases hchk : (Nat.beq args.length q.params.length && allLt q.N q.params) with
    | false => rw [hchk] at he; cases he
    | true =>
      rw [hchk] at he
      simp only [cond_true] at he
      simp only [Bool.and_eq_true] at hchk
      have hlen : args.length = q.params.length := Nat.eq_of_beq_eq_true hchk.1
      obtain ⟨k', lr, hk', hh, hlr⟩ := h.ls l q hq
      rw [hk] at hk'
      cases hk'
      have hvlen := dens_length ha
      have hy := run_yield (P := P) (args := argvs.toArray) hh (by rw [hlr.params]; simp; omega)
      obtain ⟨hts, hsz⟩ := zipPut_spec (N := q.N) (ts := q.ts) (tmps := lr.tmps) ha hlen.symm hchk.2 hlr.size hlr.ts
      have e1 : (lr.params.zip argvs.toArray).foldl (fun tmps (t, a) => tmps.setIfInBounds t a) lr.tmps = (q.params.zip argvs).foldl (fun tmps (t, a) => tmps.setIfInBounds t a) lr.tmps := by
        rw [hlr.params]
        simp
      rw [e1] at hy
      refine ⟨_, _, _, _, hy, ?_⟩
      rw [hlr.asg, hlr.body]
      have hR0 := h.enter hts hsz
      split at he
      · rename_i Sb ds1 ps1 c1 hasg
        split at he
        · cases he
        · rename_i qb hqb
          split at he
          · rename_i hst
            split at he
            · rename_i o Sd ds2 ps2 c2 hbody
              split at he
              · cases he
              · rename_i qd hqd
                simp only [Option.some.injEq] at he; subst he
                refine roundIn_of_wpIn (by rw [hF.fn]; trivial) ?_
                refine hc.go hasg (fun p hp' => hp p (by simp [hp'])) (hF.inRound k) (fun e => by cases e) hR0 fun β1 a1 W1 hE1 hR1 => ?_
                obtain ⟨k1, r1, hk1, hh1, hr1⟩ := hR1.ls l qb hqb
                have : k1 = k := by have := hE1 _ _ hk; rw [hk1] at this; simpa using this
                subst this
                refine ⟨_, run_beginRound hh1 (by rw [hr1.st, hst]), ?_⟩
                have hR2 := hR1.turnLoop (q' := { qb with st := .busy }) (r' := { r1 with state := .busy }) hqb hk1 hh1 ⟨rfl, hr1.pend, hr1.params, hr1.asg, hr1.body, hr1.size, hr1.ts⟩
                refine hc.go hbody (fun p hp' => hp p (by simp [hp'])) (hF.inRound k1) (fun e => by cases e) hR2 fun β2 a2 W2 hE2 hR3 => ?_
                obtain ⟨k2, r2, hk2, hh2, hr2⟩ := hR3.ls l qd hqd
                have : k2 = k1 := by have := hE2 _ _ hk1; rw [hk2] at this; simpa using this
                subst this
                have hEE := hE1.trans hE2
                have fin : ∀ (jump : Option Code), jumpOf o = jump → ∃ v w', (Instr.endRound k2 jump).run P W2 = .ok v w' ∧
                    (∃ v_1 β', Ending.returned v = .returned v_1 ∧ Ext β β' ∧ R β' w0 B N O m { Sd with ts := S.ts, ls := (l, { qd with st := stOf (jumpOf o), pend := jumpOf o }) :: Sd.ls } a w' ∧ den β' (.v (.bool (jumpOf o).isNone)) = some v_1) := by
                  intro jump hj
                  refine ⟨_, _, run_endRound jump hh2, _, β2, rfl, hEE, ?_, by rw [hj]; rfl⟩
                  have hR4 := hR3.turnLoop (q' := { qd with st := stOf (jumpOf o), pend := jumpOf o }) (r' := { r2 with state := if jump.isNone then .ready else .done, pending := jump }) hqd hk2 hh2
                    ⟨by rw [hj]; cases jump <;> rfl, hj.symm, hr2.params, hr2.asg, hr2.body, hr2.size, hr2.ts⟩
                  exact h.back hR4 hEE
                cases o with
                | normal => exact fin none rfl
                | ret => exact fin (some .ret) rfl
                | exit id => exact fin (some (.exit id)) rfl
                | goto t => exact fin (some (.goto t)) rfl
            · cases he
          · cases he
      · cases he

theorem bigOf_ok {code : Sub} (hc : CodeOk P code) : BigOk P (bigOf P code) where
  go := by
    intro f args S ds cnt r he hp F n β w0 B N O m a W o fv argvs K Q hF h hf ha hK
    unfold bigOf at he
    split at he
    · rename_i g caps
      simp only [den] at hf
      split at hf
      · rename_i cv hcv
        simp only [Option.some.injEq] at hf; subst hf
        obtain ⟨hcall, hfun⟩ := inlineCall_calls hc he hp h ha hcv
        obtain ⟨fn, hfn, hfb, hfname⟩ := funOk_spec hfun
        have hrun : (do let d ← Deferred.ofValue (.func (.func g) #[] cv.toArray) argvs.toArray; invoke d.target d.args : Sem Next).run P W = .ok (.enter g (argvs ++ cv).toArray) W := by
          simp only [Deferred.ofValue, Sem.run_bind, Sem.run_pure, Result.andThen_ok, Array.empty_append, invoke]
          rw [run_callFunc_body hfn hfb hfname]
          simp
        rw [hrun, Oper.uponIn_enter]
        refine ⟨fun hd => by rw [hF.depth] at hd; exact absurd hd (by simp), callsIn_loose hF (hcall.mono ?_)⟩
        rintro e W' ⟨v, β', rfl, hE, hR, hv⟩
        exact hK β' v W' hE hR hv
      · cases hf
    · rename_i l
      simp only [den, Option.map_eq_some_iff] at hf
      obtain ⟨k, hk, rfl⟩ := hf
      obtain ⟨fn, tmps, asg, body, hy, hround⟩ := yieldCall_round (F := F) (n := n - 1) hc he hp hF h ha hk
      have hrun : (do let d ← Deferred.ofValue (.func (.yield k) #[] #[]) argvs.toArray; invoke d.target d.args : Sem Next).run P W = .ok (.round k fn tmps asg body) W := by
        simp only [Deferred.ofValue, Sem.run_bind, Sem.run_pure, Result.andThen_ok, Array.empty_append, invoke]
        exact hy
      rw [hrun, Oper.uponIn_round]
      refine ⟨fun hd => by rw [hF.depth] at hd; exact absurd hd (by simp), hround.mono ?_⟩
      rintro e W' ⟨v, β', rfl, hE, hR, hv⟩
      exact hK β' v W' hE hR hv
    · cases he
end

/-! ### The levels -/
def codeN (P : Program) (E : Env P) : Nat → Sub
  | 0 => fun _ _ _ _ _ _ _ => none
  | k + 1 => fun N inR c S ds cnt m => exec P E ⟨bigOf P (codeN P E k), codeN P E k⟩ N inR c S ds cnt m

theorem codeN_ok {P : Program} (hm : P.follows .mixedOrders = true) (E : Env P) : ∀ k, CodeOk P (codeN P E k)
  | 0 => ⟨fun he => by simp [codeN] at he⟩
  | k + 1 => ⟨fun he hp _ _ _ _ _ _ _ _ _ hF hro h hQ => exec_wp hm ⟨bigOf_ok (codeN_ok hm E k), codeN_ok hm E k⟩ hF hro _ he hp h hQ⟩

/-! ### A function's contract -/
/-- A function run on values that bear no addresses: what it returns, under which conditions. -/
def runF (P : Program) (E : Env P) (lv : Nat) (f : Nat) (args : List Value) (ds : List Dec) : Option (Value × List Prop) :=
  match inlineCall P (codeN P E lv) f [] (args.map .v) ⟨[], [], [], []⟩ ds 0 with
  | some ⟨.v v, _, _, ps, _⟩ => some (v, ps)
  | _ => none

theorem R.start (w : World) : R (fun _ => none) w w.heap.size 0 (fun _ => False) 0 ⟨[], [], [], []⟩ { tmps := #[], defers := [] } w where
  ts := fun t x hx => by simp [look] at hx
  bs := fun b c ty hx => by simp [look] at hx
  ls := fun l q hx => by simp [look] at hx
  dom := fun b k hx => by cases hx
  lt := fun b k hx => by cases hx
  inj := fun b b' k hx => by cases hx
  glob := fun g k hx => by cases hx
  old := fun _ _ _ => rfl
  nold := fun b k hx => by cases hx
  hB := Nat.le_refl _
  os := rfl
  tape := rfl
  output := rfl
  size := rfl
  dfr := ⟨[], rfl, rfl, .nil, by simp⟩

theorem runF_calls {P : Program} {E : Env P} {lv : Nat} {f : FuncId} {args : List Value} {ds : List Dec} {v : Value} {ps : List Prop} (hm : P.follows .mixedOrders = true)
    (hr : runF P E lv f args ds = some (v, ps)) (hp : ∀ p ∈ ps, p) :
    (∀ w, Calls P f args.toArray w fun e w' => e = .returned v ∧ Below w.heap.size w w') ∧ funOk P f = true := by
  unfold runF at hr
  split at hr
  · rename_i v' S ds' ps' c he
    simp only [Option.some.injEq, Prod.mk.injEq] at hr
    obtain ⟨rfl, rfl⟩ := hr
    have main : ∀ w, _ := fun w => inlineCall_calls (codeN_ok hm E lv) he hp (R.start w) (dens_map_v _ args) rfl
    refine ⟨fun w => ?_, (main default).2⟩
    have := (main w).1
    rw [List.append_nil] at this
    refine this.mono ?_
    rintro e W' ⟨u, β', rfl, hE, hR, hv⟩
    simp only [den, Option.some.injEq] at hv
    subst hv
    exact ⟨rfl, hR.os, hR.tape, hR.output, hR.hB, fun k hk => hR.old k hk fun b hb => hR.nold b k hb hk⟩
  · cases hr

theorem gives_of_calls {P : Program} {f : FuncId} {args : Array Value} {v : Value} (hf : funOk P f = true)
    (h : ∀ w, Calls P f args w fun e w' => e = .returned v ∧ Below w.heap.size w w') : Gives P f args v := by
  intro F n o a W K Q h1 h2 h3 hK
  obtain ⟨fn, hfn, hfb, hfname⟩ := funOk_spec hf
  rw [run_callFunc_body hfn hfb hfname, Oper.uponIn_enter]
  refine ⟨fun hd => by rw [h2] at hd; exact absurd hd (by simp), callsIn_loose ⟨h1, h2, h3⟩ ((h W).mono ?_)⟩
  rintro e w' ⟨rfl, hB⟩
  exact hK w' hB

theorem gives_of_value {P : Program} {f : FuncId} {args : Array Value} {v : Value} (h : ∀ w, (callFunc f args).run P w = .ok (.value v) w) : Gives P f args v := by
  intro F n o a W K Q _ _ _ hK
  rw [h]
  exact hK W (Below.refl _ _)

/-- The usual way: the executor's run, its conditions, the answer in other words. -/
theorem gives_of_run {P : Program} {E : Env P} {lv : Nat} {f : FuncId} {args : List Value} {ds : List Dec} {v u : Value} {ps : List Prop} (hm : P.follows .mixedOrders = true)
    (hr : runF P E lv f args ds = some (v, ps)) (hp : ∀ p ∈ ps, p) (hu : v = u) : Gives P f args.toArray u := by
  subst hu
  obtain ⟨h1, h2⟩ := runF_calls hm hr hp
  exact gives_of_calls h2 h1

theorem ps_nil : ∀ p ∈ ([] : List Prop), p := by simp
theorem ps_cons {p : Prop} {l : List Prop} (h : p) (hl : ∀ q ∈ l, q) : ∀ q ∈ p :: l, q := by
  intro q hq
  rcases List.mem_cons.1 hq with rfl | hq
  · exact h
  · exact hl q hq
end Go.Sx
