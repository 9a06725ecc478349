/-
  A symbolic executor for the model's code, sixth part: regions, in the text's order and in any.
-/
import Derived.Test.YtjfcndiodbaejaaDoorSxE
namespace Go.Sx
open Go Go.RowKit

def gop (P : Program) (cts : Cts P) (ops : Array Oper) (o : Oper) (nm : Nat) (dec : Dec) : Rd Res :=
  match o.guard with
  | none => vop P cts o nm dec
  | some (j, want) => match (ops[j]?).bind (·.dst) with
    | none => .stop
    | some d => (rdT d).bind fun
      | .v (.bool true) => match want with
        | true => vop P cts o nm dec
        | false => .ret ⟨.v undef, [], []⟩
      | .v (.bool false) => match want with
        | true => .ret ⟨.v undef, [], []⟩
        | false => vop P cts o nm dec
      | .v (.tuple _) => .ret ⟨.v undef, [], []⟩
      | _ => .stop

def sop (P : Program) (cts : Cts P) (N : Nat) (ops : Array Oper) (o : Oper) (nm : Nat) (dec : Dec) : Rd (List Wr × List Prop) :=
  (gop P cts ops o nm dec).bind fun res => match o.dst with
    | none => .ret (res.wr, res.ps)
    | some d => bif Nat.blt d N then
        match dec, res.x with
        | .b q, .v (.bool b) => .ret (res.wr ++ [.t d (.v (.bool q))], (b = q) :: res.ps)
        | _, x => .ret (res.wr ++ [.t d x], res.ps)
      else .stop

theorem puts_append (S : St) (l : List Wr) (x : Wr) : S.puts (l ++ [x]) = (S.puts l).put x := by
  induction l generalizing S with
  | nil => rfl
  | cons y r ih => exact ih _

section
variable {P : Program} {w0 : World} {B N : Nat} {O : Fr} {m : Nat} {cts : Cts P} {F : Fence} {n : Nat} {ops : Array Oper}

theorem gop_wp {β : Ren} {S : St} {a : Act} {W : World} {o : Oper} {i nm : Nat} {dec : Dec} {res : Res} {rd : List Loc} {K : Act → World → Prop} {Q : Exit → Act → World → Prop} (hF : Loose F)
    (ho : ops[i]? = some o) (h : R β w0 B N O m S a W) (hr : (gop P cts ops o nm dec).run S = some (res, rd)) (hp : ∀ p ∈ res.ps, p)
    (hK : ∀ β' v W', Ext β β' → R β' w0 B N O m (S.puts res.wr) a W' → den β' res.x = some v → K (a.put o.dst v) W') : wpOpIn F n P ops Q i K a W := by
  unfold wpOpIn
  simp only [ho]
  have yes : (vop P cts o nm dec).run S = some (res, rd) → o.wpIn F n P a W K Q := fun hr => vop_wp hF h hr hp hK
  unfold gop at hr
  split at hr
  · rename_i hg
    have hw : Region.wanted o (yielded ops a.tmps) = true := by simp [Region.wanted, hg]
    rw [if_pos hw]
    exact yes hr
  · rename_i j want hg
    split at hr
    · cases hr
    · rename_i d hd
      obtain ⟨x, rd1, rd2, h1, h2⟩ := Rd.run_bind hr
      obtain ⟨v, hv, ht⟩ := rdT_run h h1
      have hyd : ∀ b, v = .bool b → yielded ops a.tmps j = some b := by
        intro b e
        unfold yielded
        rw [hd]
        simp [ht, e]
      have yes' : ∀ rd', (vop P cts o nm dec).run S = some (res, rd') → o.wpIn F n P a W K Q := fun rd' hr => vop_wp hF h hr hp hK
      have no : res = ⟨.v undef, [], []⟩ → K (a.put o.dst undef) W := fun e => by
        subst e
        exact hK β undef W (.refl _) h rfl
      split at h2
      · simp only [den, Option.some.injEq] at hv
        have := hyd true hv.symm
        split at h2
        · rw [if_pos (by simp [Region.wanted, hg, this])]
          exact yes' _ h2
        · rw [if_neg (by simp [Region.wanted, hg, this])]
          exact ⟨fun f _ => by rw [hF.fn]; trivial, no (ret_run h2).symm⟩
      · simp only [den, Option.some.injEq] at hv
        have := hyd false hv.symm
        split at h2
        · rw [if_neg (by simp [Region.wanted, hg, this])]
          exact ⟨fun f _ => by rw [hF.fn]; trivial, no (ret_run h2).symm⟩
        · rw [if_pos (by simp [Region.wanted, hg, this])]
          exact yes' _ h2
      · rename_i vs
        simp only [den, Option.some.injEq] at hv
        have : yielded ops a.tmps j = none := by
          unfold yielded
          rw [hd]
          simp [ht, ← hv]
        rw [if_neg (by simp [Region.wanted, hg, this])]
        exact ⟨fun f _ => by rw [hF.fn]; trivial, no (ret_run h2).symm⟩
      · cases h2

theorem sop_wp {β : Ren} {S : St} {a : Act} {W : World} {o : Oper} {i nm : Nat} {dec : Dec} {wr : List Wr} {ps : List Prop} {rd : List Loc} {K : Act → World → Prop} {Q : Exit → Act → World → Prop} (hF : Loose F)
    (ho : ops[i]? = some o) (h : R β w0 B N O m S a W) (hr : (sop P cts N ops o nm dec).run S = some ((wr, ps), rd)) (hp : ∀ p ∈ ps, p)
    (hK : ∀ β' a' W', Ext β β' → R β' w0 B N O m (S.puts wr) a' W' → K a' W') : wpOpIn F n P ops Q i K a W := by
  obtain ⟨res, rd1, rd2, h1, h2⟩ := Rd.run_bind hr
  split at h2
  · rename_i hd
    have := ret_run h2
    simp only [Prod.mk.injEq] at this
    obtain ⟨rfl, rfl⟩ := this
    exact gop_wp hF ho h h1 hp (fun β' v W' hE hR _ => by rw [hd]; exact hK β' a W' hE hR)
  · rename_i d hd
    cases hb : Nat.blt d N with
    | false => rw [hb] at h2; cases h2
    | true =>
      rw [hb] at h2
      have hlt : d < N := by simpa [Nat.blt_eq] using hb
      simp only [cond_true] at h2
      split at h2
      · rename_i x q b hx
        have := ret_run h2
        simp only [Prod.mk.injEq] at this
        obtain ⟨rfl, rfl⟩ := this
        have hbq : b = q := hp _ (by simp)
        exact gop_wp hF ho h h1 (fun p hp' => hp p (by simp [hp'])) (fun β' v W' hE hR hv => by
          rw [hd]
          refine hK β' _ W' hE ?_
          rw [puts_append]
          rw [hx, hbq] at hv
          exact hR.putT hv hlt)
      · have := ret_run h2
        simp only [Prod.mk.injEq] at this
        obtain ⟨rfl, rfl⟩ := this
        exact gop_wp hF ho h h1 hp (fun β' v W' hE hR hv => by
          rw [hd]
          refine hK β' _ W' hE ?_
          rw [puts_append]
          exact hR.putT hv hlt)
end

/-! ### Great steps: calls that are walked into, rounds -/
structure IRes where
  x : SV
  S : St
  ds : List Dec
  ps : List Prop
  cnt : Nat
  pan : Option Value

/-- What walks into a call: the function, the arguments, the state. -/
abbrev Big := SV → List SV → St → List Dec → Nat → Option IRes

structure BigOk (P : Program) (big : Big) : Prop where
  go : ∀ {f : SV} {args : List SV} {S : St} {ds : List Dec} {cnt : Nat} {r : IRes}, big f args S ds cnt = some r → (∀ p ∈ r.ps, p) →
    ∀ {F : Fence} {n : Nat} {β : Ren} {w0 : World} {B N : Nat} {O : Fr} {m : Nat} {a : Act} {W : World} {o : Oper} {fv : Value} {argvs : List Value} {K : Act → World → Prop} {Q : Exit → Act → World → Prop},
      Loose F → R β w0 B N O m S a W → den β f = some fv → dens β args = some argvs →
      (∀ β' v W', r.pan = none → Ext β β' → R β' w0 B N O m r.S a W' → den β' r.x = some v → K (a.put o.dst v) W') →
      (∀ β' v W', r.pan = some v → Ext β β' → R β' w0 B N O m r.S a W' → Q (.panic [{ v, recovered := false }]) a W') →
      o.uponIn F n P a K Q ((do let d ← Deferred.ofValue fv argvs.toArray; invoke d.target d.args : Sem Next).run P W)

def rdXs : List Operand → Rd (List SV)
  | [] => .ret []
  | x :: r => (rdX x).bind fun v => (rdXs r).bind fun l => .ret (v :: l)

theorem rdXs_run {β : Ren} {w0 : World} {B N : Nat} {O : Fr} {m : Nat} {S : St} {a : Act} {W : World} : ∀ {xs : List Operand} {l : List SV} {rd : List Loc}, R β w0 B N O m S a W → (rdXs xs).run S = some (l, rd) → dens β l = some (xs.map a.eval)
  | [], l, rd, _, hr => by simp only [rdXs, Rd.run, Option.some.injEq, Prod.mk.injEq] at hr; rw [← hr.1]; rfl
  | x :: r, l, rd, h, hr => by
    obtain ⟨v, rd1, rd2, h1, h2⟩ := Rd.run_bind hr
    obtain ⟨l', rd3, rd4, h3, h4⟩ := Rd.run_bind h2
    simp only [Rd.run, Option.some.injEq, Prod.mk.injEq] at h4
    obtain ⟨rfl, _⟩ := h4
    simp [dens, rdX_run h h1, rdXs_run h h3]

/-- Is the operation a call that is walked into? Its function and arguments. -/
def classify {P : Program} (cts : Cts P) (o : Oper) (S : St) : Option (SV × List SV) :=
  match o.op with
  | .call ⟨.value f, args, _⟩ => match (rdX f).run S with
    | some (x, _) => match (match x with
        | .fn g [] => (findC cts.v g).isSome || (findD cts.d g).isSome
        | _ => false) with
      | true => none
      | false => match (rdXs args.toList).run S with
        | some (l, _) => some (x, l)
        | none => none
    | none => none
  | _ => none

def guardB (ops : Array Oper) (o : Oper) (S : St) : Bool :=
  match o.guard with
  | none => true
  | some (j, want) => match (ops[j]?).bind (·.dst) with
    | none => false
    | some d => match look S.ts d with
      | some (.v (.bool true)) => want
      | some (.v (.bool false)) => !want
      | _ => false

/-! ### What was done, operation by operation -/
structure Ent where
  i : Nat
  nm : Nat
  dec : Dec
  wr : List Wr
  ps : List Prop
  rd : List Loc
  big : Option St

/-- Operation i leads from S to T. -/
structure Leads (P : Program) (N : Nat) (ops : Array Oper) (i : Nat) (S T : St) : Prop where
  go : ∀ {F : Fence} {n : Nat} {β : Ren} {w0 : World} {B : Nat} {O : Fr} {m : Nat} {a : Act} {W : World} {K : Act → World → Prop} {Q : Exit → Act → World → Prop},
    Loose F → R β w0 B N O m S a W → (∀ β' a' W', Ext β β' → R β' w0 B N O m T a' W' → K a' W') → wpOpIn F n P ops Q i K a W

/-- Operation i leads from S to T, by a panic. -/
structure Pans (P : Program) (N : Nat) (ops : Array Oper) (i : Nat) (S T : St) (v : Value) : Prop where
  go : ∀ {F : Fence} {n : Nat} {β : Ren} {w0 : World} {B : Nat} {O : Fr} {m : Nat} {a : Act} {W : World} {K : Act → World → Prop} {Q : Exit → Act → World → Prop},
    Loose F → R β w0 B N O m S a W → (∀ β' W', Ext β β' → R β' w0 B N O m T a W' → Q (.panic [{ v, recovered := false }]) a W') → wpOpIn F n P ops Q i K a W

structure Pan where
  i : Nat
  v : Value
  ps : List Prop
  T : St

/-- The log L is right from S on and leads to S'. -/
def Valid (P : Program) (cts : Cts P) (N : Nat) (ops : Array Oper) (S' : St) : St → List Ent → Prop
  | S, [] => ∀ l, S'.get l = S.get l
  | S, e :: r => match e.big with
    | none => (∃ o, ops[e.i]? = some o ∧ (sop P cts N ops o e.nm e.dec).run S = some ((e.wr, e.ps), e.rd)) ∧ Valid P cts N ops S' (S.puts e.wr) r
    | some T => ((∀ p ∈ e.ps, p) → Leads P N ops e.i S T) ∧ Valid P cts N ops S' T r

def memL (l : Loc) : List Loc → Bool
  | [] => false
  | x :: r => Loc.eq l x || memL l r

theorem Loc.eq_iff {a b : Loc} : Loc.eq a b = true ↔ a = b := by
  cases a <;> cases b <;> simp [Loc.eq]

theorem memL_iff {l : Loc} {r : List Loc} : memL l r = true ↔ l ∈ r := by
  induction r with
  | nil => simp [memL]
  | cons x r ih => simp [memL, Loc.eq_iff, ih]

def noneIn (ws : List Wr) (ls : List Loc) : Bool := ws.all fun w => !memL w.loc ls

def indep (x e : Ent) : Bool :=
  match x.big, e.big with
  | none, none => noneIn x.wr e.rd && noneIn x.wr (e.wr.map Wr.loc) && noneIn e.wr x.rd
  | _, _ => false

theorem noneIn_spec {ws : List Wr} {ls : List Loc} (h : noneIn ws ls = true) {l : Loc} (hl : l ∈ ls) : l ∉ ws.map Wr.loc := by
  intro hm
  obtain ⟨w, hw, rfl⟩ := List.mem_map.1 hm
  have := List.all_eq_true.1 h w hw
  simp only [Bool.not_eq_true'] at this
  rw [memL_iff.2 hl] at this
  cases this

theorem get_put_ne (S : St) (w : Wr) (l : Loc) (h : l ≠ w.loc) : (S.put w).get l = S.get l := by
  cases w with
  | t i x =>
    cases l with
    | t j =>
      simp only [St.put, St.get]
      rw [look_cons, if_neg (fun e => h (by rw [e]; rfl))]
    | _ => rfl
  | b i c ty =>
    cases l with
    | b j =>
      simp only [St.put, St.get]
      rw [look_cons, if_neg (fun e => h (by rw [e]; rfl))]
    | _ => rfl
  | u i =>
    cases l with
    | u j =>
      simp only [St.put, St.get, memN]
      have hne : i ≠ j := fun e => h (by rw [e]; rfl)
      have : Nat.beq i j = false := by
        cases hb : Nat.beq i j with
        | false => rfl
        | true => exact absurd (Nat.eq_of_beq_eq_true hb) hne
      rw [this]
      rfl
    | _ => rfl
  | r i q =>
    cases l with
    | r j =>
      simp only [St.put, St.get]
      rw [lookR_cons, if_neg (fun e => h (by rw [e]; rfl))]
    | _ => rfl

theorem get_put_same (S : St) (w : Wr) : (S.put w).get w.loc = w.val := by
  cases w with
  | r i q => cases q <;> simp [St.put, St.get, Wr.loc, Wr.val, lookR_cons]
  | _ => simp [St.put, St.get, Wr.loc, Wr.val, look_cons, memN]

theorem get_puts_ne (l : Loc) : ∀ (ws : List Wr) (S : St), l ∉ ws.map Wr.loc → (S.puts ws).get l = S.get l
  | [], S, _ => rfl
  | w :: r, S, h => by
    simp only [List.map_cons, List.mem_cons, not_or] at h
    rw [St.puts, get_puts_ne l r _ h.2, get_put_ne _ _ _ h.1]

/-- What is written does not hang on what was there. -/
theorem get_puts_congr (l : Loc) : ∀ (ws : List Wr) (S S' : St), (l ∈ ws.map Wr.loc ∨ S.get l = S'.get l) → (S.puts ws).get l = (S'.puts ws).get l
  | [], S, S', h => by simpa [St.puts] using h
  | w :: r, S, S', h => by
    refine get_puts_congr l r _ _ ?_
    by_cases e : l = w.loc
    · subst e; right; rw [get_put_same, get_put_same]
    · rcases h with h | h
      · simp only [List.map_cons, List.mem_cons] at h
        exact .inl (h.resolve_left e)
      · right; rw [get_put_ne _ _ _ e, get_put_ne _ _ _ e, h]

theorem look_of_get {S T : St} (h : ∀ l, T.get l = S.get l) : (∀ i, look T.ts i = look S.ts i) ∧ (∀ i, look T.bs i = look S.bs i) ∧ (∀ i, look T.ls i = look S.ls i) ∧ (∀ i, memN i T.us = memN i S.us) ∧ (∀ i, lookR T.rs i = lookR S.rs i) := by
  refine ⟨fun i => ?_, fun i => ?_, fun i => ?_, fun i => ?_, fun i => ?_⟩
  · have := h (.t i)
    simp only [St.get] at this
    cases h1 : look T.ts i <;> cases h2 : look S.ts i <;> simp_all
  · have := h (.b i)
    simp only [St.get] at this
    cases h1 : look T.bs i <;> cases h2 : look S.bs i <;> simp_all
    rename_i x y
    obtain ⟨c, ty⟩ := x
    obtain ⟨c', ty'⟩ := y
    simpa using this
  · have := h (.l i)
    simp only [St.get] at this
    cases h1 : look T.ls i <;> cases h2 : look S.ls i <;> simp_all
  · have := h (.u i)
    simp only [St.get] at this
    cases h1 : memN i T.us <;> cases h2 : memN i S.us <;> simp_all
  · have := h (.r i)
    simp only [St.get] at this
    cases h1 : lookR T.rs i <;> cases h2 : lookR S.rs i <;> simp_all

theorem R.congr {β : Ren} {w0 : World} {B N : Nat} {O : Fr} {m : Nat} {S T : St} {a : Act} {W : World} (h : R β w0 B N O m S a W) (hg : ∀ l, T.get l = S.get l) : R β w0 B N O m T a W := by
  obtain ⟨h1, h2, h3, h4, h5⟩ := look_of_get hg
  exact { h with
    ts := fun t x hx => h.ts t x (by rw [← h1]; exact hx)
    bs := fun b c ty hb => h.bs b c ty (by rw [← h2]; exact hb)
    ls := fun l q hl => h.ls l q (by rw [← h3]; exact hl)
    dom := fun b k hb => by rw [h4]; exact h.dom b k hb
    rdom := fun r p hr => by rw [h4]; exact h.rdom r p hr
    rs := fun r q hr => h.rs r q (by rw [← h5]; exact hr)
    rb := fun r q p hr => h.rb r q p (by rw [← h5]; exact hr)
    ro := fun r r' q q' p p' hr hr' => h.ro r r' q q' p p' (by rw [← h5]; exact hr) (by rw [← h5]; exact hr')
    dfr := h.dfr }

section
variable {P : Program} {cts : Cts P} {N : Nat} {ops : Array Oper} {S' : St}

theorem Leads.congr {i : Nat} {S U T : St} (hg : ∀ l, U.get l = S.get l) (h : Leads P N ops i S T) : Leads P N ops i U T :=
  ⟨fun hF hR hK => h.go hF (hR.congr fun l => (hg l).symm) hK⟩

theorem Valid.congr : ∀ {L : List Ent} {S T : St}, (∀ l, T.get l = S.get l) → Valid P cts N ops S' S L → Valid P cts N ops S' T L
  | [], S, T, h, hv => fun l => (hv l).trans (h l).symm
  | e :: r, S, T, h, hv => by
    rw [Valid] at hv ⊢
    cases hb : e.big with
    | none =>
      rw [hb] at hv
      obtain ⟨⟨o, ho, hr⟩, hv⟩ := hv
      exact ⟨⟨o, ho, Rd.run_local hr (fun l _ => h l)⟩, Valid.congr (fun l => get_puts_congr l e.wr _ _ (.inr (h l))) hv⟩
    | some U =>
      rw [hb] at hv
      exact ⟨fun hp => (hv.1 hp).congr h, hv.2⟩

theorem Valid.swap {S : St} {x e : Ent} {r : List Ent} (hi : indep x e = true) (hv : Valid P cts N ops S' S (x :: e :: r)) : Valid P cts N ops S' S (e :: x :: r) := by
  rw [indep] at hi
  split at hi
  · rename_i hbx hbe
    simp only [Bool.and_eq_true] at hi
    obtain ⟨⟨h1, h2⟩, h3⟩ := hi
    rw [Valid, hbx] at hv
    obtain ⟨⟨ox, hox, hrx⟩, hv⟩ := hv
    rw [Valid, hbe] at hv
    obtain ⟨⟨oe, hoe, hre⟩, hv⟩ := hv
    rw [Valid, hbe]
    refine ⟨⟨oe, hoe, Rd.run_local hre fun l hl => ?_⟩, ?_⟩
    · exact (get_puts_ne l _ _ (noneIn_spec h1 hl)).symm
    · rw [Valid, hbx]
      refine ⟨⟨ox, hox, Rd.run_local hrx fun l hl => ?_⟩, ?_⟩
      · exact get_puts_ne l _ _ (noneIn_spec h3 hl)
      · refine hv.congr fun l => ?_
        by_cases hx : l ∈ x.wr.map Wr.loc
        · have he : l ∉ e.wr.map Wr.loc := fun he => noneIn_spec h2 he hx
          rw [get_puts_ne l e.wr _ he]
          exact get_puts_congr l x.wr _ _ (.inl hx)
        · rw [get_puts_ne l x.wr _ hx]
          exact get_puts_congr l e.wr _ _ (.inr (get_puts_ne l x.wr _ hx).symm)
  · cases hi

theorem Valid.front : ∀ {p : List Ent} {S : St} {e : Ent} {q : List Ent}, (∀ x ∈ p, indep x e = true) → Valid P cts N ops S' S (p ++ e :: q) → Valid P cts N ops S' S (e :: (p ++ q))
  | [], _, _, _, _, hv => hv
  | x :: p, S, e, q, hi, hv => by
    refine Valid.swap (hi x (by simp)) ?_
    rw [List.cons_append, Valid] at hv
    rw [Valid]
    cases hb : x.big with
    | none => rw [hb] at hv; exact ⟨hv.1, Valid.front (fun y hy => hi y (by simp [hy])) hv.2⟩
    | some T => rw [hb] at hv; exact ⟨hv.1, Valid.front (fun y hy => hi y (by simp [hy])) hv.2⟩

/-- The log's first entry, done. -/
theorem Valid.first {e : Ent} {r : List Ent} {S : St} (hv : Valid P cts N ops S' S (e :: r)) (hp : ∀ p ∈ e.ps, p) : ∃ T, Leads P N ops e.i S T ∧ Valid P cts N ops S' T r := by
  rw [Valid] at hv
  cases hb : e.big with
  | none =>
    rw [hb] at hv
    obtain ⟨⟨o, ho, hr⟩, hv⟩ := hv
    exact ⟨_, ⟨fun hF hR hK => sop_wp hF ho hR hr hp hK⟩, hv⟩
  | some T => rw [hb] at hv; exact ⟨T, hv.1 hp, hv.2⟩
end

/-! ### In the text's order -/
def isSrc (ops : Array Oper) (i : Nat) : Bool := ops.toList.any fun o => match o.guard with
  | some (j, _) => Nat.beq j i
  | none => false

def asks (ops : Array Oper) (i : Nat) (o : Oper) : Bool :=
  match o.op with
  | .indexAddr _ _ ix => !isConst ix
  | .buildSlice _ _ _ => true
  | _ => isSrc ops i

def nextDec (b : Bool) (ds : List Dec) : Dec × List Dec :=
  bif b then (match ds with
    | [] => (.lit, [])
    | d :: r => (d, r)) else (.lit, ds)

def putDst (N : Nat) (dst : Option Tmp) (x : SV) (S : St) : Option St :=
  match dst with
  | none => some S
  | some d => bif Nat.blt d N then some (S.put (.t d x)) else none

def bigArgs {P : Program} (cts : Cts P) (ops : Array Oper) (o : Oper) (S : St) : Option (SV × List SV) :=
  bif guardB ops o S then classify cts o S else none

def panicArg (ops : Array Oper) (o : Oper) (S : St) : Option (TypeId × Value) :=
  match o.op with
  | .panic x => bif guardB ops o S then (match (rdV x).run S with
    | some (.iface t v, _) => some (t, v)
    | _ => none) else none
  | _ => none

def runOps (P : Program) (cts : Cts P) (big : Big) (N : Nat) (ops : Array Oper) (base : Nat) : List Oper → Nat → St → List Dec → Nat → Option (List Ent × St × List Dec × Nat × Option Pan)
  | [], _, S, ds, bc => some ([], S, ds, bc, none)
  | o :: r, i, S, ds, bc =>
    match panicArg ops o S with
    | some (t, v) => some ([], S, ds, bc, some ⟨i, .iface t v, [], S⟩)
    | none =>
    match bigArgs cts ops o S with
    | some (f, args) => match big f args S ds bc with
      | some ⟨x, T, ds1, ps, bc1, none⟩ => match putDst N o.dst x T with
        | some T1 => match runOps P cts big N ops base r (i + 1) T1 ds1 bc1 with
          | some (L, S', ds2, bc2, pn) => some (⟨i, 0, .lit, [], ps, [], some T1⟩ :: L, S', ds2, bc2, pn)
          | none => none
        | none => none
      | some ⟨_, T, ds1, ps, bc1, some v⟩ => some ([], S, ds1, bc1, some ⟨i, v, ps, T⟩)
      | none => none
    | none =>
      match nextDec (asks ops i o) ds with
      | (dec, ds1) => match (sop P cts N ops o (base + i) dec).run S with
        | some ((wr, ps), rd) => match runOps P cts big N ops base r (i + 1) (S.puts wr) ds1 bc with
          | some (L, S', ds2, bc2, pn) => some (⟨i, base + i, dec, wr, ps, rd, none⟩ :: L, S', ds2, bc2, pn)
          | none => none
        | none => none

theorem guardB_wanted {β : Ren} {w0 : World} {B N : Nat} {O : Fr} {m : Nat} {S : St} {a : Act} {W : World} {ops : Array Oper} {o : Oper} (h : R β w0 B N O m S a W) (hg : guardB ops o S = true) : Region.wanted o (yielded ops a.tmps) = true := by
  unfold guardB at hg
  split at hg
  · rename_i he; simp [Region.wanted, he]
  · rename_i j want he
    split at hg
    · cases hg
    · rename_i d hd
      have hy : ∀ b, look S.ts d = some (.v (.bool b)) → yielded ops a.tmps j = some b := fun b hl => by
        obtain ⟨v, hv, ht⟩ := h.ts d _ hl
        simp only [den, Option.some.injEq] at hv
        subst hv
        unfold yielded
        rw [hd]
        simp [ht]
      split at hg
      · rename_i hl; subst hg; simp [Region.wanted, he, hy true hl]
      · rename_i hl
        have hw : want = false := by simpa using hg
        subst hw
        simp [Region.wanted, he, hy false hl]
      · cases hg

theorem big_core {P : Program} {cts : Cts P} {big : Big} (hbig : BigOk P big) {N : Nat} {ops : Array Oper} {i : Nat} {o : Oper} {S : St} {r : IRes} {f : SV} {args : List SV} {ds : List Dec} {cnt : Nat}
    (ho : ops[i]? = some o) (hc : bigArgs cts ops o S = some (f, args)) (hb : big f args S ds cnt = some r) (hp : ∀ p ∈ r.ps, p) {F : Fence} {n : Nat} {β : Ren} {w0 : World} {B : Nat} {O : Fr} {m : Nat} {a : Act} {W : World} {K : Act → World → Prop} {Q : Exit → Act → World → Prop}
    (hF : Loose F) (hR : R β w0 B N O m S a W) (hK : ∀ β' v W', r.pan = none → Ext β β' → R β' w0 B N O m r.S a W' → den β' r.x = some v → K (a.put o.dst v) W')
    (hQ : ∀ β' v W', r.pan = some v → Ext β β' → R β' w0 B N O m r.S a W' → Q (.panic [{ v, recovered := false }]) a W') : wpOpIn F n P ops Q i K a W := by
  unfold bigArgs at hc
  cases hgd : guardB ops o S with
  | false => rw [hgd] at hc; cases hc
  | true =>
    rw [hgd] at hc
    simp only [cond_true] at hc
    unfold wpOpIn
    simp only [ho]
    rw [if_pos (guardB_wanted hR hgd)]
    obtain ⟨dst, op, type, pos, after, guard⟩ := o
    unfold classify at hc
    split at hc
    · rename_i g args' tys hop
      simp only at hop
      subst hop
      split at hc
      · rename_i y rd1 h1
        have hf := rdX_run hR h1
        have key : (match (rdXs args'.toList).run S with
            | some (l, _) => some (y, l)
            | none => none) = some (f, args) → Oper.wpIn F n P ⟨dst, .call ⟨.value g, args', tys⟩, type, pos, after, guard⟩ a W K Q := by
          intro hc
          split at hc
          · rename_i l rd2 h2
            simp only [Option.some.injEq, Prod.mk.injEq] at hc
            obtain ⟨rfl, rfl⟩ := hc
            have hargs := rdXs_run hR h2
            refine ⟨fun f _ => by rw [hF.fn]; trivial, ?_⟩
            rw [Oper.semAt_eq _ _ _ (by simp)]
            have he : execOp a.eval ⟨dst, .call ⟨.value g, args', tys⟩, type, pos, after, guard⟩ = (do let d ← Deferred.ofValue (a.eval g) (args'.toList.map a.eval).toArray; invoke d.target d.args) := by
              have : args'.map a.eval = (args'.toList.map a.eval).toArray := by cases args'; simp
              simp only [execOp, resolve, this]
            rw [he]
            exact hbig.go hb hp hF hR hf hargs hK hQ
          · cases hc
        split at hc
        · cases hc
        · exact key hc
      · cases hc
    · cases hc

theorem big_leads {P : Program} {cts : Cts P} {big : Big} (hbig : BigOk P big) {N : Nat} {ops : Array Oper} {i : Nat} {o : Oper} {S T T1 : St} {f : SV} {args : List SV} {ds ds1 : List Dec} {cnt c1 : Nat} {x : SV} {ps : List Prop}
    (ho : ops[i]? = some o) (hc : bigArgs cts ops o S = some (f, args)) (hb : big f args S ds cnt = some ⟨x, T, ds1, ps, c1, none⟩) (hd : putDst N o.dst x T = some T1) (hp : ∀ p ∈ ps, p) : Leads P N ops i S T1 := by
  refine ⟨fun {F n β w0 B O m a W K Q} hF hR hK => ?_⟩
  refine big_core hbig ho hc hb hp hF hR (fun β' v W' _ hE hR' hv => ?_) (fun _ _ _ h => by cases h)
  obtain ⟨dst, op, type, pos, after, guard⟩ := o
  cases dst with
  | none =>
    simp only [putDst, Option.some.injEq] at hd
    subst hd
    exact hK β' a W' hE hR'
  | some d =>
    simp only [putDst] at hd
    cases hlt : Nat.blt d N with
    | false => rw [hlt] at hd; cases hd
    | true =>
      rw [hlt] at hd
      simp only [cond_true, Option.some.injEq] at hd
      subst hd
      exact hK β' _ W' hE (hR'.putT hv (by simpa [Nat.blt_eq] using hlt))

theorem big_pans {P : Program} {cts : Cts P} {big : Big} (hbig : BigOk P big) {N : Nat} {ops : Array Oper} {i : Nat} {o : Oper} {S T : St} {f : SV} {args : List SV} {ds ds1 : List Dec} {cnt c1 : Nat} {x : SV} {ps : List Prop} {v : Value}
    (ho : ops[i]? = some o) (hc : bigArgs cts ops o S = some (f, args)) (hb : big f args S ds cnt = some ⟨x, T, ds1, ps, c1, some v⟩) (hp : ∀ p ∈ ps, p) : Pans P N ops i S T v := by
  refine ⟨fun {F n β w0 B O m a W K Q} hF hR hQ => ?_⟩
  exact big_core hbig ho hc hb hp hF hR (fun _ _ _ h => by cases h) (fun β' u W' h hE hR' => by cases h; exact hQ β' W' hE hR')

theorem panic_pans {P : Program} {N : Nat} {ops : Array Oper} {i : Nat} {o : Oper} {S : St} {t : TypeId} {v : Value} (ho : ops[i]? = some o) (hc : panicArg ops o S = some (t, v)) : Pans P N ops i S S (.iface t v) := by
  refine ⟨fun {F n β w0 B O m a W K Q} hF hR hQ => ?_⟩
  unfold panicArg at hc
  split at hc
  · rename_i x hop
    cases hgd : guardB ops o S with
    | false => rw [hgd] at hc; cases hc
    | true =>
      rw [hgd] at hc
      simp only [cond_true] at hc
      split at hc
      · rename_i t' v' rd hx
        simp only [Option.some.injEq, Prod.mk.injEq] at hc
        obtain ⟨rfl, rfl⟩ := hc
        have hv := rdV_run hR hx
        unfold wpOpIn
        simp only [ho]
        rw [if_pos (guardB_wanted hR hgd)]
        obtain ⟨dst, op, type, pos, after, guard⟩ := o
        simp only at hop
        subst hop
        refine ⟨fun f _ => by rw [hF.fn]; trivial, ?_⟩
        rw [Oper.semAt_eq _ _ _ (by simp)]
        have he : (execOp a.eval ⟨dst, .panic x, type, pos, after, guard⟩).run P W = .halt (.panic (.iface t' v')) W := by
          simp only [execOp]
          rw [hv]
          rfl
        rw [he]
        exact hQ β W (.refl _) hR
      · cases hc
  · cases hc

/-- What a region's run ends in: past its last operation, or at one that leaves by a panic. -/
def PanOk (P : Program) (N : Nat) (ops : Array Oper) (i k : Nat) (S' : St) : Option Pan → List Ent → Prop
  | none, L => L.map (·.i) = List.range' i k
  | some q, L => i ≤ q.i ∧ q.i < i + k ∧ L.map (·.i) = List.range' i (q.i - i) ∧ ((∀ p ∈ q.ps, p) → Pans P N ops q.i S' q.T q.v)

theorem PanOk.cons {P : Program} {N : Nat} {ops : Array Oper} {i k : Nat} {S' : St} : ∀ {q : Option Pan} {L : List Ent} {e : Ent}, e.i = i → PanOk P N ops (i + 1) k S' q L → PanOk P N ops i (k + 1) S' q (e :: L)
  | none, L, e, he, h => by
    have h : L.map (·.i) = List.range' (i + 1) k := h
    show (e :: L).map (·.i) = List.range' i (k + 1)
    simp [h, he, List.range'_succ]
  | some q, L, e, he, h => by
    obtain ⟨h1, h2, h3, h4⟩ := h
    refine ⟨by omega, by omega, ?_, h4⟩
    have : q.i - i = (q.i - (i + 1)) + 1 := by omega
    rw [this, List.map_cons, h3, he, List.range'_succ]

theorem runOps_spec {P : Program} {cts : Cts P} {big : Big} (hbig : BigOk P big) {N : Nat} {ops : Array Oper} {base : Nat} : ∀ {l : List Oper} {i : Nat} {S : St} {ds : List Dec} {bc : Nat} {L : List Ent} {S' : St} {ds' : List Dec} {bc' : Nat} {q : Option Pan},
    ops.toList.drop i = l → runOps P cts big N ops base l i S ds bc = some (L, S', ds', bc', q) → Valid P cts N ops S' S L ∧ PanOk P N ops i l.length S' q L
  | [], i, S, ds, bc, L, S', ds', bc', q, _, h => by
    simp only [runOps, Option.some.injEq, Prod.mk.injEq] at h
    obtain ⟨rfl, rfl, rfl, rfl, rfl⟩ := h
    exact ⟨fun _ => rfl, rfl⟩
  | o :: r, i, S, ds, bc, L, S', ds', bc', q, hl, h => by
    have hi : ops[i]? = some o := by
      have : (ops.toList.drop i)[0]? = some o := by rw [hl]; rfl
      simpa using this
    have hd : ops.toList.drop (i + 1) = r := by
      have : (ops.toList.drop i).drop 1 = r := by rw [hl]; rfl
      simpa [List.drop_drop] using this
    simp only [runOps] at h
    split at h
    · rename_i t v hc
      simp only [Option.some.injEq, Prod.mk.injEq] at h
      obtain ⟨rfl, rfl, rfl, rfl, rfl⟩ := h
      exact ⟨fun _ => rfl, Nat.le_refl _, by simp, by simp, fun _ => panic_pans hi hc⟩
    split at h
    · rename_i f args hc
      split at h
      · rename_i x T ds1 ps bc1 hb
        split at h
        · rename_i T1 hdst
          split at h
          · rename_i L' S2 ds2 bc2 pn hrest
            simp only [Option.some.injEq, Prod.mk.injEq] at h
            obtain ⟨rfl, rfl, rfl, rfl, rfl⟩ := h
            obtain ⟨hv, hm⟩ := runOps_spec hbig hd hrest
            refine ⟨?_, hm.cons rfl⟩
            rw [Valid]
            exact ⟨fun hp => big_leads hbig hi hc hb hdst hp, hv⟩
          · cases h
        · cases h
      · rename_i x T ds1 ps bc1 v hb
        simp only [Option.some.injEq, Prod.mk.injEq] at h
        obtain ⟨rfl, rfl, rfl, rfl, rfl⟩ := h
        refine ⟨fun _ => rfl, Nat.le_refl _, by simp, by simp, fun hp => big_pans hbig hi hc hb hp⟩
      · cases h
    · split at h
      · rename_i wr ps rd hr
        split at h
        · rename_i L' S2 ds2 bc2 pn hrest
          simp only [Option.some.injEq, Prod.mk.injEq] at h
          obtain ⟨rfl, rfl, rfl, rfl, rfl⟩ := h
          obtain ⟨hv, hm⟩ := runOps_spec hbig hd hrest
          refine ⟨?_, hm.cons rfl⟩
          rw [Valid]
          exact ⟨⟨o, hi, hr⟩, hv⟩
        · cases h
      · cases h

section
variable {P : Program} {w0 : World} {B N : Nat} {O : Fr} {m : Nat} {cts : Cts P} {F : Fence} {n : Nat} {ops : Array Oper} {Q : Exit → Act → World → Prop} {S' : St}

theorem valid_wp (hF : Loose F) {rest : List Nat} : ∀ {L : List Ent} {β : Ren} {S : St} {a : Act} {W : World}, (∀ β' a W, Ext β β' → R β' w0 B N O m S' a W → wpOpsIn F n P ops Q rest a W) → R β w0 B N O m S a W → Valid P cts N ops S' S L →
    (∀ e ∈ L, ∀ p ∈ e.ps, p) → wpOpsIn F n P ops Q (L.map (·.i) ++ rest) a W
  | [], β, S, a, W, hQ, h, hv, _ => hQ β a W (.refl _) (h.congr hv)
  | e :: r, β, S, a, W, hQ, h, hv, hp => by
    obtain ⟨T, hl, hv⟩ := hv.first (hp e (by simp))
    rw [List.map_cons, List.cons_append, wpOpsIn_cons]
    exact hl.go hF h fun β' a' W' hE hR => valid_wp hF (fun β2 a2 W2 hE2 hR2 => hQ β2 a2 W2 (hE.trans hE2) hR2) hR hv (fun e' he' => hp e' (by simp [he']))
end

end Go.Sx
