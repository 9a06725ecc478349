/-
  A symbolic executor for the model's code, sixth part: regions, in the text's order and in any.
-/
import Derived.Test.YtpeepbgpcmodcaaDoorSxa
import Derived.RangeFuncLeaves
import Derived.RangeFuncRecord
namespace Go.Sx
open Go Go.RowKit
def gop (P : Program) (cts : Cts P) (ops : Array Oper) (o : Oper) (nm : Nat) (dec : Dec) : Rd Res :=
  match o.guard with
  | none => vop P cts o nm dec
  | some (j, want) => match (ops[j]?).bind (·.dst) with
    | none => .stop
    | some d => (rdT d).bind fun
      | .v (.bool true) => match want with
        | true => vop P cts o nm dec
        | false => .ret ⟨.v undef, [], []⟩
      | .v (.bool false) => match want with
        | true => .ret ⟨.v undef, [], []⟩
        | false => vop P cts o nm dec
      | .v (.tuple _) => .ret ⟨.v undef, [], []⟩
      | _ => .stop
def sop (P : Program) (cts : Cts P) (N : Nat) (ops : Array Oper) (o : Oper) (nm : Nat) (dec : Dec) : Rd (List Wr × List Prop) :=
  (gop P cts ops o nm dec).bind fun res => match o.dst with
    | none => .ret (res.wr, res.ps)
    | some d => bif Nat.blt d N then
        match dec, res.x with
        | .b q, .v (.bool b) => .ret (res.wr ++ [.t d (.v (.bool q))], (b = q) :: res.ps)
        | _, x => .ret (res.wr ++ [.t d x], res.ps)
      else .stop
theorem puts_append (S : St) (l : List Wr) (x : Wr) : S.puts (l ++ [x]) = (S.puts l).put x := by
  induction l generalizing S with
  | nil => rfl
  | cons y r ih => exact ih _
section
variable {P : Program} {w0 : World} {B N : Nat} {O : Fr} {m : Nat} {cts : Cts P} {F : Fence} {n : Nat} {ops : Array Oper}
theorem gop_wp {β : Ren} {S : St} {a : Act} {W : World} {o : Oper} {i nm : Nat} {dec : Dec} {res : Res} {rd : List Loc} {K : Act → World → Prop} {Q : Exit → Act → World → Prop} (hF : Loose F)
    (ho : ops[i]? = some o) (h : R β w0 B N O m S a W) (hr : (gop P cts ops o nm dec).run S = some (res, rd)) (hp : ∀ p ∈ res.ps, p)
    (hK : ∀ β' v W', Ext β β' → R β' w0 B N O m (S.puts res.wr) a W' → den β' res.x = some v → K (a.put o.dst v) W') : wpOpIn F n P ops Q i K a W := by
  unfold wpOpIn
  simp only [ho]
  have yes : (vop P cts o nm dec).run S = some (res, rd) → o.wpIn F n P a W K Q := fun hr => vop_wp hF h hr hp hK
  unfold gop at hr
  split at hr
  · rename_i hg
    have hw : Region.wanted o (yielded ops a.tmps) = true := by simp [Region.wanted, hg]
    rw [if_pos hw]
    exact yes hr
  · rename_i j want hg
    split at hr
    · cases hr
    · rename_i d hd
      obtain ⟨x, rd1, rd2, h1, h2⟩ := Rd.run_bind hr
      obtain ⟨v, hv, ht⟩ := rdT_run h h1
      have hyd : ∀ b, v = .bool b → yielded ops a.tmps j = some b := by
        intro b e
        unfold yielded
        rw [hd]
        simp [ht, e]
      have yes' : ∀ rd', (vop P cts o nm dec).run S = some (res, rd') → o.wpIn F n P a W K Q := fun rd' hr => vop_wp hF h hr hp hK
      have no : res = ⟨.v undef, [], []⟩ → K (a.put o.dst undef) W := fun e => by
        subst e
        exact hK β undef W (.refl _) h rfl
      split at h2
      · simp only [den, Option.some.injEq] at hv
        have := hyd true hv.symm
        split at h2
        · rw [if_pos (by simp [Region.wanted, hg, this])]
          exact yes' _ h2
        · rw [if_neg (by simp [Region.wanted, hg, this])]
          exact ⟨fun f _ => by rw [hF.fn]; trivial, no (ret_run h2).symm⟩
      · simp only [den, Option.some.injEq] at hv
        have := hyd false hv.symm
        split at h2
        · rw [if_neg (by simp [Region.wanted, hg, this])]
          exact ⟨fun f _ => by rw [hF.fn]; trivial, no (ret_run h2).symm⟩
        · rw [if_pos (by simp [Region.wanted, hg, this])]
          exact yes' _ h2
      · rename_i vs
        simp only [den, Option.some.injEq] at hv
        have : yielded ops a.tmps j = none := by
          unfold yielded
          rw [hd]
          simp [ht, ← hv]
        rw [if_neg (by simp [Region.wanted, hg, this])]
        exact ⟨fun f _ => by rw [hF.fn]; trivial, no (ret_run h2).symm⟩
      · cases h2
theorem sop_wp {β : Ren} {S : St} {a : Act} {W : World} {o : Oper} {i nm : Nat} {dec : Dec} {wr : List Wr} {ps : List Prop} {rd : List Loc} {K : Act → World → Prop} {Q : Exit → Act → World → Prop} (hF : Loose F)
    (ho : ops[i]? = some o) (h : R β w0 B N O m S a W) (hr : (sop P cts N ops o nm dec).run S = some ((wr, ps), rd)) (hp : ∀ p ∈ ps, p)
    (hK : ∀ β' a' W', Ext β β' → R β' w0 B N O m (S.puts wr) a' W' → K a' W') : wpOpIn F n P ops Q i K a W := by
  obtain ⟨res, rd1, rd2, h1, h2⟩ := Rd.run_bind hr
  split at h2
  · rename_i hd
    have := ret_run h2
    simp only [Prod.mk.injEq] at this
    obtain ⟨rfl, rfl⟩ := this
    exact gop_wp hF ho h h1 hp (fun β' v W' hE hR _ => by rw [hd]; exact hK β' a W' hE hR)
  · rename_i d hd
    cases hb : Nat.blt d N with
    | false => rw [hb] at h2; cases h2
    | true =>
      rw [hb] at h2
      have hlt : d < N := by simpa [Nat.blt_eq] using hb
      simp only [cond_true] at h2
      split at h2
      · rename_i x q b hx
        have := ret_run h2
        simp only [Prod.mk.injEq] at this
        obtain ⟨rfl, rfl⟩ := this
        have hbq : b = q := hp _ (by simp)
        exact gop_wp hF ho h h1 (fun p hp' => hp p (by simp [hp'])) (fun β' v W' hE hR hv => by
          rw [hd]
          refine hK β' _ W' hE ?_
          rw [puts_append]
          rw [hx, hbq] at hv
          exact hR.putT hv hlt)
      · have := ret_run h2
        simp only [Prod.mk.injEq] at this
        obtain ⟨rfl, rfl⟩ := this
        exact gop_wp hF ho h h1 hp (fun β' v W' hE hR hv => by
          rw [hd]
          refine hK β' _ W' hE ?_
          rw [puts_append]
          exact hR.putT hv hlt)
end
structure IRes where
  x : SV
  S : St
  ds : List Dec
  ps : List Prop
  cnt : Nat
  pan : Option Value
abbrev Big := SV → List SV → St → List Dec → Nat → Option IRes
structure BigOk (P : Program) (big : Big) : Prop where
  go : ∀ {f : SV} {args : List SV} {S : St} {ds : List Dec} {cnt : Nat} {r : IRes}, big f args S ds cnt = some r → (∀ p ∈ r.ps, p) →
    ∀ {F : Fence} {n : Nat} {β : Ren} {w0 : World} {B N : Nat} {O : Fr} {m : Nat} {a : Act} {W : World} {o : Oper} {fv : Value} {argvs : List Value} {K : Act → World → Prop} {Q : Exit → Act → World → Prop}, Loose F → R β w0 B N O m S a W → den β f = some fv → dens β args = some argvs →
      (∀ β' v W', r.pan = none → Ext β β' → R β' w0 B N O m r.S a W' → den β' r.x = some v → K (a.put o.dst v) W') →
      (∀ β' v W', r.pan = some v → Ext β β' → R β' w0 B N O m r.S a W' → Q (.panic [{ v, recovered := false }]) a W') →
      o.uponIn F n P a K Q ((do let d ← Deferred.ofValue fv argvs.toArray; invoke d.target d.args : Sem Next).run P W)
def rdXs : List Operand → Rd (List SV)
  | [] => .ret []
  | x :: r => (rdX x).bind fun v => (rdXs r).bind fun l => .ret (v :: l)
theorem rdXs_run {β : Ren} {w0 : World} {B N : Nat} {O : Fr} {m : Nat} {S : St} {a : Act} {W : World} : ∀ {xs : List Operand} {l : List SV} {rd : List Loc}, R β w0 B N O m S a W → (rdXs xs).run S = some (l, rd) → dens β l = some (xs.map a.eval)
  | [], l, rd, _, hr => by simp only [rdXs, Rd.run, Option.some.injEq, Prod.mk.injEq] at hr; rw [← hr.1]; rfl
  | x :: r, l, rd, h, hr => by
    obtain ⟨v, rd1, rd2, h1, h2⟩ := Rd.run_bind hr
    obtain ⟨l', rd3, rd4, h3, h4⟩ := Rd.run_bind h2
    simp only [Rd.run, Option.some.injEq, Prod.mk.injEq] at h4
    obtain ⟨rfl, _⟩ := h4
    simp [dens, rdX_run h h1, rdXs_run h h3]
def classify {P : Program} (cts : Cts P) (o : Oper) (S : St) : Option (SV × List SV) :=
  match o.op with
  | .call ⟨.value f, args, _⟩ => match (rdX f).run S with
    | some (x, _) => match (match x with
        | .fn g [] => (findC cts.v g).isSome || ((findD cts.d g).isSome || (findR cts.r g).isSome)
        | .fn g (_ :: _) => (findD cts.d g).isSome
        | _ => false) with
      | true => none
      | false => match (rdXs args.toList).run S with
        | some (l, _) => some (x, l)
        | none => none
    | none => none
  | _ => none
def guardB (ops : Array Oper) (o : Oper) (S : St) : Bool :=
  match o.guard with
  | none => true
  | some (j, want) => match (ops[j]?).bind (·.dst) with
    | none => false
    | some d => match look S.ts d with
      | some (.v (.bool true)) => want
      | some (.v (.bool false)) => !want
      | _ => false
structure Ent where
  i : Nat
  nm : Nat
  dec : Dec
  wr : List Wr
  ps : List Prop
  rd : List Loc
  big : Option St
structure Leads (P : Program) (N : Nat) (ops : Array Oper) (i : Nat) (S T : St) : Prop where
  go : ∀ {F : Fence} {n : Nat} {β : Ren} {w0 : World} {B : Nat} {O : Fr} {m : Nat} {a : Act} {W : World} {K : Act → World → Prop} {Q : Exit → Act → World → Prop}, Loose F → R β w0 B N O m S a W → (∀ β' a' W', Ext β β' → R β' w0 B N O m T a' W' → K a' W') → wpOpIn F n P ops Q i K a W
structure Pans (P : Program) (N : Nat) (ops : Array Oper) (i : Nat) (S T : St) (v : Value) : Prop where
  go : ∀ {F : Fence} {n : Nat} {β : Ren} {w0 : World} {B : Nat} {O : Fr} {m : Nat} {a : Act} {W : World} {K : Act → World → Prop} {Q : Exit → Act → World → Prop}, Loose F → R β w0 B N O m S a W → (∀ β' W', Ext β β' → R β' w0 B N O m T a W' → Q (.panic [{ v, recovered := false }]) a W') → wpOpIn F n P ops Q i K a W
structure Pan where
  i : Nat
  v : Value
  ps : List Prop
  T : St
def Valid (P : Program) (cts : Cts P) (N : Nat) (ops : Array Oper) (S' : St) : St → List Ent → Prop
  | S, [] => ∀ l, S'.get l = S.get l
  | S, e :: r => match e.big with
    | none => (∃ o, ops[e.i]? = some o ∧ (sop P cts N ops o e.nm e.dec).run S = some ((e.wr, e.ps), e.rd)) ∧ Valid P cts N ops S' (S.puts e.wr) r
    | some T => ((∀ p ∈ e.ps, p) → Leads P N ops e.i S T) ∧ Valid P cts N ops S' T r
def memL (l : Loc) : List Loc → Bool
  | [] => false
  | x :: r => Loc.eq l x || memL l r
theorem Loc.eq_iff {a b : Loc} : Loc.eq a b = true ↔ a = b := by
  cases a <;> cases b <;> simp [Loc.eq]
theorem memL_iff {l : Loc} {r : List Loc} : memL l r = true ↔ l ∈ r := by
  induction r with
  | nil => simp [memL]
  | cons x r ih => simp [memL, Loc.eq_iff, ih]
def noneIn (ws : List Wr) (ls : List Loc) : Bool := ws.all fun w => !memL w.loc ls
def indep (x e : Ent) : Bool :=
  match x.big, e.big with
  | none, none => noneIn x.wr e.rd && noneIn x.wr (e.wr.map Wr.loc) && noneIn e.wr x.rd
  | _, _ => false
theorem noneIn_spec {ws : List Wr} {ls : List Loc} (h : noneIn ws ls = true) {l : Loc} (hl : l ∈ ls) : l ∉ ws.map Wr.loc := by
  intro hm
  obtain ⟨w, hw, rfl⟩ := List.mem_map.1 hm
  have := List.all_eq_true.1 h w hw
  simp only [Bool.not_eq_true'] at this
  rw [memL_iff.2 hl] at this
  cases this
theorem get_put_ne (S : St) (w : Wr) (l : Loc) (h : l ≠ w.loc) : (S.put w).get l = S.get l := by
  cases w with
  | t i x =>
    cases l with
    | t j =>
      simp only [St.put, St.get]
      rw [look_cons, if_neg (fun e => h (by rw [e]; rfl))]
    | _ => rfl
  | b i c ty =>
    cases l with
    | b j =>
      simp only [St.put, St.get]
      rw [look_cons, if_neg (fun e => h (by rw [e]; rfl))]
    | _ => rfl
  | u i =>
    cases l with
    | u j =>
      simp only [St.put, St.get, memN]
      have hne : i ≠ j := fun e => h (by rw [e]; rfl)
      have : Nat.beq i j = false := by
        cases hb : Nat.beq i j with
        | false => rfl
        | true => exact absurd (Nat.eq_of_beq_eq_true hb) hne
      rw [this]
      rfl
    | _ => rfl
  | r i q =>
    cases l with
    | r j =>
      simp only [St.put, St.get]
      rw [lookR_cons, if_neg (fun e => h (by rw [e]; rfl))]
    | _ => rfl
theorem get_put_same (S : St) (w : Wr) : (S.put w).get w.loc = w.val := by
  cases w with
  | r i q => cases q <;> simp [St.put, St.get, Wr.loc, Wr.val, lookR_cons]
  | _ => simp [St.put, St.get, Wr.loc, Wr.val, look_cons, memN]
theorem get_puts_ne (l : Loc) : ∀ (ws : List Wr) (S : St), l ∉ ws.map Wr.loc → (S.puts ws).get l = S.get l
  | [], S, _ => rfl
  | w :: r, S, h => by
    simp only [List.map_cons, List.mem_cons, not_or] at h
    rw [St.puts, get_puts_ne l r _ h.2, get_put_ne _ _ _ h.1]
theorem get_puts_congr (l : Loc) : ∀ (ws : List Wr) (S S' : St), (l ∈ ws.map Wr.loc ∨ S.get l = S'.get l) → (S.puts ws).get l = (S'.puts ws).get l
  | [], S, S', h => by simpa [St.puts] using h
  | w :: r, S, S', h => by
    refine get_puts_congr l r _ _ ?_
    by_cases e : l = w.loc
    · subst e; right; rw [get_put_same, get_put_same]
    · rcases h with h | h
      · simp only [List.map_cons, List.mem_cons] at h
        exact .inl (h.resolve_left e)
      · right; rw [get_put_ne _ _ _ e, get_put_ne _ _ _ e, h]
theorem look_of_get {S T : St} (h : ∀ l, T.get l = S.get l) : (∀ i, look T.ts i = look S.ts i) ∧ (∀ i, look T.bs i = look S.bs i) ∧ (∀ i, look T.ls i = look S.ls i) ∧ (∀ i, memN i T.us = memN i S.us) ∧ (∀ i, lookR T.rs i = lookR S.rs i) := by
  refine ⟨fun i => ?_, fun i => ?_, fun i => ?_, fun i => ?_, fun i => ?_⟩
  · have := h (.t i)
    simp only [St.get] at this
    cases h1 : look T.ts i <;> cases h2 : look S.ts i <;> simp_all
  · have := h (.b i)
    simp only [St.get] at this
    cases h1 : look T.bs i <;> cases h2 : look S.bs i <;> simp_all
    rename_i x y
    obtain ⟨c, ty⟩ := x
    obtain ⟨c', ty'⟩ := y
    simpa using this
  · have := h (.l i)
    simp only [St.get] at this
    cases h1 : look T.ls i <;> cases h2 : look S.ls i <;> simp_all
  · have := h (.u i)
    simp only [St.get] at this
    cases h1 : memN i T.us <;> cases h2 : memN i S.us <;> simp_all
  · have := h (.r i)
    simp only [St.get] at this
    cases h1 : lookR T.rs i <;> cases h2 : lookR S.rs i <;> simp_all
theorem R.congr {β : Ren} {w0 : World} {B N : Nat} {O : Fr} {m : Nat} {S T : St} {a : Act} {W : World} (h : R β w0 B N O m S a W) (hg : ∀ l, T.get l = S.get l) : R β w0 B N O m T a W := by
  obtain ⟨h1, h2, h3, h4, h5⟩ := look_of_get hg
  exact { h with
    ts := fun t x hx => h.ts t x (by rw [← h1]; exact hx)
    bs := fun b c ty hb => h.bs b c ty (by rw [← h2]; exact hb)
    ls := fun l q hl => h.ls l q (by rw [← h3]; exact hl)
    dom := fun b k hb => by rw [h4]; exact h.dom b k hb
    rdom := fun r p hr => by rw [h4]; exact h.rdom r p hr
    rs := fun r q hr => h.rs r q (by rw [← h5]; exact hr)
    rb := fun r q p hr => h.rb r q p (by rw [← h5]; exact hr)
    ro := fun r r' q q' p p' hr hr' => h.ro r r' q q' p p' (by rw [← h5]; exact hr) (by rw [← h5]; exact hr')
    dfr := h.dfr }
section
variable {P : Program} {cts : Cts P} {N : Nat} {ops : Array Oper} {S' : St}
theorem Leads.congr {i : Nat} {S U T : St} (hg : ∀ l, U.get l = S.get l) (h : Leads P N ops i S T) : Leads P N ops i U T :=
  ⟨fun hF hR hK => h.go hF (hR.congr fun l => (hg l).symm) hK⟩
theorem Valid.congr : ∀ {L : List Ent} {S T : St}, (∀ l, T.get l = S.get l) → Valid P cts N ops S' S L → Valid P cts N ops S' T L
  | [], S, T, h, hv => fun l => (hv l).trans (h l).symm
  | e :: r, S, T, h, hv => by
    rw [Valid] at hv ⊢
    cases hb : e.big with
    | none =>
      rw [hb] at hv
      obtain ⟨⟨o, ho, hr⟩, hv⟩ := hv
      exact ⟨⟨o, ho, Rd.run_local hr (fun l _ => h l)⟩, Valid.congr (fun l => get_puts_congr l e.wr _ _ (.inr (h l))) hv⟩
    | some U =>
      rw [hb] at hv
      exact ⟨fun hp => (hv.1 hp).congr h, hv.2⟩
theorem Valid.swap {S : St} {x e : Ent} {r : List Ent} (hi : indep x e = true) (hv : Valid P cts N ops S' S (x :: e :: r)) : Valid P cts N ops S' S (e :: x :: r) := by
  rw [indep] at hi
  split at hi
  · rename_i hbx hbe
    simp only [Bool.and_eq_true] at hi
    obtain ⟨⟨h1, h2⟩, h3⟩ := hi
    rw [Valid, hbx] at hv
    obtain ⟨⟨ox, hox, hrx⟩, hv⟩ := hv
    rw [Valid, hbe] at hv
    obtain ⟨⟨oe, hoe, hre⟩, hv⟩ := hv
    rw [Valid, hbe]
    refine ⟨⟨oe, hoe, Rd.run_local hre fun l hl => ?_⟩, ?_⟩
    · exact (get_puts_ne l _ _ (noneIn_spec h1 hl)).symm
    · rw [Valid, hbx]
      refine ⟨⟨ox, hox, Rd.run_local hrx fun l hl => ?_⟩, ?_⟩
      · exact get_puts_ne l _ _ (noneIn_spec h3 hl)
      · refine hv.congr fun l => ?_
        by_cases hx : l ∈ x.wr.map Wr.loc
        · have he : l ∉ e.wr.map Wr.loc := fun he => noneIn_spec h2 he hx
          rw [get_puts_ne l e.wr _ he]
          exact get_puts_congr l x.wr _ _ (.inl hx)
        · rw [get_puts_ne l x.wr _ hx]
          exact get_puts_congr l e.wr _ _ (.inr (get_puts_ne l x.wr _ hx).symm)
  · cases hi
theorem Valid.front : ∀ {p : List Ent} {S : St} {e : Ent} {q : List Ent}, (∀ x ∈ p, indep x e = true) → Valid P cts N ops S' S (p ++ e :: q) → Valid P cts N ops S' S (e :: (p ++ q))
  | [], _, _, _, _, hv => hv
  | x :: p, S, e, q, hi, hv => by
    refine Valid.swap (hi x (by simp)) ?_
    rw [List.cons_append, Valid] at hv
    rw [Valid]
    cases hb : x.big with
    | none => rw [hb] at hv; exact ⟨hv.1, Valid.front (fun y hy => hi y (by simp [hy])) hv.2⟩
    | some T => rw [hb] at hv; exact ⟨hv.1, Valid.front (fun y hy => hi y (by simp [hy])) hv.2⟩
theorem Valid.first {e : Ent} {r : List Ent} {S : St} (hv : Valid P cts N ops S' S (e :: r)) (hp : ∀ p ∈ e.ps, p) : ∃ T, Leads P N ops e.i S T ∧ Valid P cts N ops S' T r := by
  rw [Valid] at hv
  cases hb : e.big with
  | none =>
    rw [hb] at hv
    obtain ⟨⟨o, ho, hr⟩, hv⟩ := hv
    exact ⟨_, ⟨fun hF hR hK => sop_wp hF ho hR hr hp hK⟩, hv⟩
  | some T => rw [hb] at hv; exact ⟨T, hv.1 hp, hv.2⟩
end
def isSrc (ops : Array Oper) (i : Nat) : Bool := ops.toList.any fun o => match o.guard with
  | some (j, _) => Nat.beq j i
  | none => false
def asks (ops : Array Oper) (i : Nat) (o : Oper) : Bool :=
  match o.op with
  | .indexAddr _ _ ix => !isConst ix
  | .buildSlice _ _ _ => true
  | .next _ _ => true
  | .call ⟨.value (.func g), _, _⟩ => memN g rowFs || isSrc ops i
  | .index _ x ix => (!isConst ix && (!isConst x && (match o.guard with
    | some _ => true
    | none => false))) || isSrc ops i
  | _ => isSrc ops i
def nextDec (b : Bool) (ds : List Dec) : Dec × List Dec :=
  bif b then (match ds with
    | [] => (.lit, [])
    | d :: r => (d, r)) else (.lit, ds)
def putDst (N : Nat) (dst : Option Tmp) (x : SV) (S : St) : Option St :=
  match dst with
  | none => some S
  | some d => bif Nat.blt d N then some (S.put (.t d x)) else none
def bigArgs {P : Program} (cts : Cts P) (ops : Array Oper) (o : Oper) (S : St) : Option (SV × List SV) :=
  bif guardB ops o S then classify cts o S else none
def panicArg (ops : Array Oper) (o : Oper) (S : St) : Option (TypeId × Value) :=
  match o.op with
  | .panic x => bif guardB ops o S then (match (rdV x).run S with
    | some (.iface t v, _) => some (t, v)
    | _ => none) else none
  | _ => none
structure Dr where
  t : List Nat
  u : List Nat
def dropT (D : Dr) (S : St) : St := { S with ts := S.ts.filter fun p => !memN p.1 D.t, bs := S.bs.filter fun p => !memN p.1 D.u, us := D.u ++ S.us }
def isNew : Op → Bool
  | .alloc _ => true
  | .box _ _ => true
  | _ => false
def laterU : List Oper → Nat → List Nat
  | [], _ => []
  | o :: r, k => bif isNew o.op then k :: laterU r (k + 1) else laterU r (k + 1)
def laterD (ops : Array Oper) (base i : Nat) : Dr := ⟨(ops.toList.drop (i + 1)).filterMap (·.dst), laterU (ops.toList.drop (i + 1)) (base + (i + 1))⟩
def Dr.keeps (D : Dr) : Loc → Prop
  | .t d => memN d D.t = false
  | .b d => memN d D.u = false
  | .u d => memN d D.u = false
  | _ => True
theorem memN_app (i : Nat) : ∀ (a b : List Nat), memN i (a ++ b) = (memN i a || memN i b)
  | [], b => by simp [memN]
  | j :: r, b => by
    simp only [List.cons_append, memN]
    cases Nat.beq j i with
    | true => simp
    | false => simp only [cond_false]; exact memN_app i r b
theorem look_filter {α : Type} (D : List Nat) (t : Nat) : ∀ (l : List (Nat × α)), look (l.filter fun p => !memN p.1 D) t = if memN t D = true then none else look l t
  | [] => by simp [look]
  | (i, x) :: r => by
    have ih := look_filter D t r
    by_cases hi : memN i D = true
    · have : ((i, x) :: r).filter (fun p => !memN p.1 D) = r.filter (fun p => !memN p.1 D) := by simp [hi]
      rw [this, ih, look_cons]
      by_cases e : i = t
      · subst e; rw [if_pos hi, if_pos hi]
      · rw [if_neg e]
    · have : ((i, x) :: r).filter (fun p => !memN p.1 D) = (i, x) :: r.filter (fun p => !memN p.1 D) := by simp [hi]
      rw [this, look_cons, look_cons, ih]
      by_cases e : i = t
      · subst e; rw [if_pos rfl, if_neg hi, if_pos rfl]
      · rw [if_neg e, if_neg e]
theorem R.outside {β : Ren} {w0 : World} {B N : Nat} {O : Fr} {m : Nat} {S T : St} {a : Act} {W : World} {D : Dr} (h : R β w0 B N O m S a W) (hg : ∀ l, D.keeps l → T.get l = S.get l) : R β w0 B N O m (dropT D T) a W := by
  have h1 : ∀ i, memN i D.t = false → look T.ts i = look S.ts i := fun i hi => by
    have := hg (.t i) hi
    simp only [St.get] at this
    cases h1 : look T.ts i <;> cases h2 : look S.ts i <;> simp_all
  have h2 : ∀ i, memN i D.u = false → look T.bs i = look S.bs i := fun i hi => by
    have := hg (.b i) hi
    simp only [St.get] at this
    rcases hx : look T.bs i with _ | ⟨c, ty⟩ <;> rcases hy : look S.bs i with _ | ⟨c', ty'⟩ <;> rw [hx, hy] at this <;> simp_all
  have h3 : ∀ i, look T.ls i = look S.ls i := fun i => by
    have := hg (.l i) trivial
    simp only [St.get] at this
    cases h1 : look T.ls i <;> cases h2 : look S.ls i <;> simp_all
  have h4 : ∀ i, memN i S.us = true → memN i (D.u ++ T.us) = true := fun i hs => by
    rw [memN_app]
    cases hi : memN i D.u with
    | true => rfl
    | false =>
      have := hg (.u i) hi
      simp only [St.get] at this
      rw [hs] at this
      cases h1 : memN i T.us <;> simp_all
  have h5 : ∀ i, lookR T.rs i = lookR S.rs i := fun i => by
    have := hg (.r i) trivial
    simp only [St.get] at this
    cases h1 : lookR T.rs i <;> cases h2 : lookR S.rs i <;> simp_all
  exact { h with
    ts := fun t x hx => by
      have hx : look (T.ts.filter fun p => !memN p.1 D.t) t = some x := hx
      rw [look_filter] at hx
      cases hm : memN t D.t with
      | true => rw [hm, if_pos rfl] at hx; cases hx
      | false =>
        rw [hm, if_neg (by simp)] at hx
        exact h.ts t x (by rw [← h1 t hm]; exact hx)
    bs := fun b c ty hb => by
      have hb : look (T.bs.filter fun p => !memN p.1 D.u) b = some (c, ty) := hb
      rw [look_filter] at hb
      cases hm : memN b D.u with
      | true => rw [hm, if_pos rfl] at hb; cases hb
      | false =>
        rw [hm, if_neg (by simp)] at hb
        exact h.bs b c ty (by rw [← h2 b hm]; exact hb)
    ls := fun l q hl => h.ls l q (by rw [← h3]; exact hl)
    dom := fun b k hb => h4 b (h.dom b k hb)
    rdom := fun r p hr => h4 r (h.rdom r p hr)
    rs := fun r q hr => h.rs r q (by rw [← h5]; exact hr)
    rb := fun r q p hr => h.rb r q p (by rw [← h5]; exact hr)
    ro := fun r r' q q' p p' hr hr' => h.ro r r' q q' p p' (by rw [← h5]; exact hr) (by rw [← h5]; exact hr')
    dfr := h.dfr }
theorem R.dropT {β : Ren} {w0 : World} {B N : Nat} {O : Fr} {m : Nat} {S : St} {a : Act} {W : World} (D : Dr) (h : R β w0 B N O m S a W) : R β w0 B N O m (dropT D S) a W := h.outside fun _ _ => rfl
theorem Pans.full {P : Program} {N : Nat} {ops : Array Oper} {j : Nat} {S T : St} {v : Value} {D : Dr} (h : Pans P N ops j (Sx.dropT D S) T v) : Pans P N ops j S T v := ⟨fun hF hR hQ => h.go hF (hR.dropT D) hQ⟩
def runOps (P : Program) (cts : Cts P) (big : Big) (N : Nat) (ops : Array Oper) (base : Nat) : List Oper → Nat → St → List Dec → Nat → Option (List Ent × St × List Dec × Nat × Option Pan)
  | [], _, S, ds, bc => some ([], S, ds, bc, none)
  | o :: r, i, S, ds, bc =>
    match panicArg ops o (dropT (laterD ops base i) S) with
    | some (t, v) => some ([], S, ds, bc, some ⟨i, .iface t v, [], dropT (laterD ops base i) S⟩)
    | none =>
    match bigArgs cts ops o S with
    | some (f, args) => match big f args S ds bc with
      | some ⟨x, T, ds1, ps, bc1, none⟩ => match putDst N o.dst x T with
        | some T1 => match runOps P cts big N ops base r (i + 1) T1 ds1 bc1 with
          | some (L, S', ds2, bc2, pn) => some (⟨i, 0, .lit, [], ps, [], some T1⟩ :: L, S', ds2, bc2, pn)
          | none => none
        | none => none
      | some ⟨_, _, _, _, _, some _⟩ => match bigArgs cts ops o (dropT (laterD ops base i) S) with
        | some (f, args) => match big f args (dropT (laterD ops base i) S) ds bc with
          | some ⟨_, T, ds1, ps, bc1, some v⟩ => some ([], S, ds1, bc1, some ⟨i, v, ps, T⟩)
          | _ => none
        | none => none
      | none => none
    | none =>
      match nextDec (asks ops i o) ds with
      | (dec, ds1) => match (sop P cts N ops o (base + i) dec).run S with
        | some ((wr, ps), rd) => match runOps P cts big N ops base r (i + 1) (S.puts wr) ds1 bc with
          | some (L, S', ds2, bc2, pn) => some (⟨i, base + i, dec, wr, ps, rd, none⟩ :: L, S', ds2, bc2, pn)
          | none => none
        | none => none
theorem guardB_wanted {β : Ren} {w0 : World} {B N : Nat} {O : Fr} {m : Nat} {S : St} {a : Act} {W : World} {ops : Array Oper} {o : Oper} (h : R β w0 B N O m S a W) (hg : guardB ops o S = true) : Region.wanted o (yielded ops a.tmps) = true := by
  unfold guardB at hg
  split at hg
  · rename_i he; simp [Region.wanted, he]
  · rename_i j want he
    split at hg
    · cases hg
    · rename_i d hd
      have hy : ∀ b, look S.ts d = some (.v (.bool b)) → yielded ops a.tmps j = some b := fun b hl => by
        obtain ⟨v, hv, ht⟩ := h.ts d _ hl
        simp only [den, Option.some.injEq] at hv
        subst hv
        unfold yielded
        rw [hd]
        simp [ht]
      split at hg
      · rename_i hl; subst hg; simp [Region.wanted, he, hy true hl]
      · rename_i hl
        have hw : want = false := by simpa using hg
        subst hw
        simp [Region.wanted, he, hy false hl]
      · cases hg
theorem big_core {P : Program} {cts : Cts P} {big : Big} (hbig : BigOk P big) {N : Nat} {ops : Array Oper} {i : Nat} {o : Oper} {S : St} {r : IRes} {f : SV} {args : List SV} {ds : List Dec} {cnt : Nat}
    (ho : ops[i]? = some o) (hc : bigArgs cts ops o S = some (f, args)) (hb : big f args S ds cnt = some r) (hp : ∀ p ∈ r.ps, p) {F : Fence} {n : Nat} {β : Ren} {w0 : World} {B : Nat} {O : Fr} {m : Nat} {a : Act} {W : World} {K : Act → World → Prop} {Q : Exit → Act → World → Prop}
    (hF : Loose F) (hR : R β w0 B N O m S a W) (hK : ∀ β' v W', r.pan = none → Ext β β' → R β' w0 B N O m r.S a W' → den β' r.x = some v → K (a.put o.dst v) W')
    (hQ : ∀ β' v W', r.pan = some v → Ext β β' → R β' w0 B N O m r.S a W' → Q (.panic [{ v, recovered := false }]) a W') : wpOpIn F n P ops Q i K a W := by
  unfold bigArgs at hc
  cases hgd : guardB ops o S with
  | false => rw [hgd] at hc; cases hc
  | true =>
    rw [hgd] at hc
    simp only [cond_true] at hc
    unfold wpOpIn
    simp only [ho]
    rw [if_pos (guardB_wanted hR hgd)]
    obtain ⟨dst, op, type, pos, after, guard⟩ := o
    unfold classify at hc
    split at hc
    · rename_i g args' tys hop
      simp only at hop
      subst hop
      split at hc
      · rename_i y rd1 h1
        have hf := rdX_run hR h1
        have key : (match (rdXs args'.toList).run S with
            | some (l, _) => some (y, l)
            | none => none) = some (f, args) → Oper.wpIn F n P ⟨dst, .call ⟨.value g, args', tys⟩, type, pos, after, guard⟩ a W K Q := by
          intro hc
          split at hc
          · rename_i l rd2 h2
            simp only [Option.some.injEq, Prod.mk.injEq] at hc
            obtain ⟨rfl, rfl⟩ := hc
            have hargs := rdXs_run hR h2
            refine ⟨fun f _ => by rw [hF.fn]; trivial, ?_⟩
            rw [Oper.semAt_eq _ _ _ (by simp)]
            have he : execOp a.eval ⟨dst, .call ⟨.value g, args', tys⟩, type, pos, after, guard⟩ = (do let d ← Deferred.ofValue (a.eval g) (args'.toList.map a.eval).toArray; invoke d.target d.args) := by
              have : args'.map a.eval = (args'.toList.map a.eval).toArray := by cases args'; simp
              simp only [execOp, resolve, this]
            rw [he]
            exact hbig.go hb hp hF hR hf hargs hK hQ
          · cases hc
        split at hc
        · cases hc
        · exact key hc
      · cases hc
    · cases hc
theorem big_leads {P : Program} {cts : Cts P} {big : Big} (hbig : BigOk P big) {N : Nat} {ops : Array Oper} {i : Nat} {o : Oper} {S T T1 : St} {f : SV} {args : List SV} {ds ds1 : List Dec} {cnt c1 : Nat} {x : SV} {ps : List Prop}
    (ho : ops[i]? = some o) (hc : bigArgs cts ops o S = some (f, args)) (hb : big f args S ds cnt = some ⟨x, T, ds1, ps, c1, none⟩) (hd : putDst N o.dst x T = some T1) (hp : ∀ p ∈ ps, p) : Leads P N ops i S T1 := by
  refine ⟨fun {F n β w0 B O m a W K Q} hF hR hK => ?_⟩
  refine big_core hbig ho hc hb hp hF hR (fun β' v W' _ hE hR' hv => ?_) (fun _ _ _ h => by cases h)
  obtain ⟨dst, op, type, pos, after, guard⟩ := o
  cases dst with
  | none =>
    simp only [putDst, Option.some.injEq] at hd
    subst hd
    exact hK β' a W' hE hR'
  | some d =>
    simp only [putDst] at hd
    cases hlt : Nat.blt d N with
    | false => rw [hlt] at hd; cases hd
    | true =>
      rw [hlt] at hd
      simp only [cond_true, Option.some.injEq] at hd
      subst hd
      exact hK β' _ W' hE (hR'.putT hv (by simpa [Nat.blt_eq] using hlt))
theorem big_pans {P : Program} {cts : Cts P} {big : Big} (hbig : BigOk P big) {N : Nat} {ops : Array Oper} {i : Nat} {o : Oper} {S T : St} {f : SV} {args : List SV} {ds ds1 : List Dec} {cnt c1 : Nat} {x : SV} {ps : List Prop} {v : Value}
    (ho : ops[i]? = some o) (hc : bigArgs cts ops o S = some (f, args)) (hb : big f args S ds cnt = some ⟨x, T, ds1, ps, c1, some v⟩) (hp : ∀ p ∈ ps, p) : Pans P N ops i S T v := by
  refine ⟨fun {F n β w0 B O m a W K Q} hF hR hQ => ?_⟩
  exact big_core hbig ho hc hb hp hF hR (fun _ _ _ h => by cases h) (fun β' u W' h hE hR' => by cases h; exact hQ β' W' hE hR')
theorem panic_pans {P : Program} {N : Nat} {ops : Array Oper} {i : Nat} {o : Oper} {S : St} {t : TypeId} {v : Value} (ho : ops[i]? = some o) (hc : panicArg ops o S = some (t, v)) : Pans P N ops i S S (.iface t v) := by
  refine ⟨fun {F n β w0 B O m a W K Q} hF hR hQ => ?_⟩
  unfold panicArg at hc
  split at hc
  · rename_i x hop
    cases hgd : guardB ops o S with
    | false => rw [hgd] at hc; cases hc
    | true =>
      rw [hgd] at hc
      simp only [cond_true] at hc
      split at hc
      · rename_i t' v' rd hx
        simp only [Option.some.injEq, Prod.mk.injEq] at hc
        obtain ⟨rfl, rfl⟩ := hc
        have hv := rdV_run hR hx
        unfold wpOpIn
        simp only [ho]
        rw [if_pos (guardB_wanted hR hgd)]
        obtain ⟨dst, op, type, pos, after, guard⟩ := o
        simp only at hop
        subst hop
        refine ⟨fun f _ => by rw [hF.fn]; trivial, ?_⟩
        rw [Oper.semAt_eq _ _ _ (by simp)]
        have he : (execOp a.eval ⟨dst, .panic x, type, pos, after, guard⟩).run P W = .halt (.panic (.iface t' v')) W := by
          simp only [execOp]
          rw [hv]
          rfl
        rw [he]
        exact hQ β W (.refl _) hR
      · cases hc
  · cases hc
def PanOk (P : Program) (N : Nat) (ops : Array Oper) (base i k : Nat) (S' : St) : Option Pan → List Ent → Prop
  | none, L => L.map (·.i) = List.range' i k
  | some q, L => i ≤ q.i ∧ q.i < i + k ∧ L.map (·.i) = List.range' i (q.i - i) ∧ ((∀ p ∈ q.ps, p) → Pans P N ops q.i (dropT (laterD ops base q.i) S') q.T q.v)
theorem PanOk.cons {P : Program} {N : Nat} {ops : Array Oper} {base i k : Nat} {S' : St} : ∀ {q : Option Pan} {L : List Ent} {e : Ent}, e.i = i → PanOk P N ops base (i + 1) k S' q L → PanOk P N ops base i (k + 1) S' q (e :: L)
  | none, L, e, he, h => by
    have h : L.map (·.i) = List.range' (i + 1) k := h
    show (e :: L).map (·.i) = List.range' i (k + 1)
    simp [h, he, List.range'_succ]
  | some q, L, e, he, h => by
    obtain ⟨h1, h2, h3, h4⟩ := h
    refine ⟨by omega, by omega, ?_, h4⟩
    have : q.i - i = (q.i - (i + 1)) + 1 := by omega
    rw [this, List.map_cons, h3, he, List.range'_succ]
theorem runOps_spec {P : Program} {cts : Cts P} {big : Big} (hbig : BigOk P big) {N : Nat} {ops : Array Oper} {base : Nat} : ∀ {l : List Oper} {i : Nat} {S : St} {ds : List Dec} {bc : Nat} {L : List Ent} {S' : St} {ds' : List Dec} {bc' : Nat} {q : Option Pan}, ops.toList.drop i = l → runOps P cts big N ops base l i S ds bc = some (L, S', ds', bc', q) → Valid P cts N ops S' S L ∧ PanOk P N ops base i l.length S' q L
  | [], i, S, ds, bc, L, S', ds', bc', q, _, h => by
    simp only [runOps, Option.some.injEq, Prod.mk.injEq] at h
    obtain ⟨rfl, rfl, rfl, rfl, rfl⟩ := h
    exact ⟨fun _ => rfl, rfl⟩
  | o :: r, i, S, ds, bc, L, S', ds', bc', q, hl, h => by
    have hi : ops[i]? = some o := by
      have : (ops.toList.drop i)[0]? = some o := by rw [hl]; rfl
      simpa using this
    have hd : ops.toList.drop (i + 1) = r := by
      have : (ops.toList.drop i).drop 1 = r := by rw [hl]; rfl
      simpa [List.drop_drop] using this
    simp only [runOps] at h
    split at h
    · rename_i t v hc
      simp only [Option.some.injEq, Prod.mk.injEq] at h
      obtain ⟨rfl, rfl, rfl, rfl, rfl⟩ := h
      exact ⟨fun _ => rfl, Nat.le_refl _, by simp, by simp, fun _ => panic_pans hi hc⟩
    split at h
    · rename_i f args hc
      split at h
      · rename_i x T ds1 ps bc1 hb
        split at h
        · rename_i T1 hdst
          split at h
          · rename_i L' S2 ds2 bc2 pn hrest
            simp only [Option.some.injEq, Prod.mk.injEq] at h
            obtain ⟨rfl, rfl, rfl, rfl, rfl⟩ := h
            obtain ⟨hv, hm⟩ := runOps_spec hbig hd hrest
            refine ⟨?_, hm.cons rfl⟩
            rw [Valid]
            exact ⟨fun hp => big_leads hbig hi hc hb hdst hp, hv⟩
          · cases h
        · cases h
      · split at h
        · rename_i f2 args2 hc2
          split at h
          · rename_i x2 T2 ds2 ps2 bc2 v2 hb2
            simp only [Option.some.injEq, Prod.mk.injEq] at h
            obtain ⟨rfl, rfl, rfl, rfl, rfl⟩ := h
            exact ⟨fun _ => rfl, Nat.le_refl _, by simp, by simp, fun hp => big_pans hbig hi hc2 hb2 hp⟩
          · cases h
        · cases h
      · cases h
    · split at h
      · rename_i wr ps rd hr
        split at h
        · rename_i L' S2 ds2 bc2 pn hrest
          simp only [Option.some.injEq, Prod.mk.injEq] at h
          obtain ⟨rfl, rfl, rfl, rfl, rfl⟩ := h
          obtain ⟨hv, hm⟩ := runOps_spec hbig hd hrest
          refine ⟨?_, hm.cons rfl⟩
          rw [Valid]
          exact ⟨⟨o, hi, hr⟩, hv⟩
        · cases h
      · cases h
section
variable {P : Program} {w0 : World} {B N : Nat} {O : Fr} {m : Nat} {cts : Cts P} {F : Fence} {n : Nat} {ops : Array Oper} {Q : Exit → Act → World → Prop} {S' : St}
theorem valid_wp (hF : Loose F) {rest : List Nat} : ∀ {L : List Ent} {β : Ren} {S : St} {a : Act} {W : World}, (∀ β' a W, Ext β β' → R β' w0 B N O m S' a W → wpOpsIn F n P ops Q rest a W) → R β w0 B N O m S a W → Valid P cts N ops S' S L →
    (∀ e ∈ L, ∀ p ∈ e.ps, p) → wpOpsIn F n P ops Q (L.map (·.i) ++ rest) a W
  | [], β, S, a, W, hQ, h, hv, _ => hQ β a W (.refl _) (h.congr hv)
  | e :: r, β, S, a, W, hQ, h, hv, hp => by
    obtain ⟨T, hl, hv⟩ := hv.first (hp e (by simp))
    rw [List.map_cons, List.cons_append, wpOpsIn_cons]
    exact hl.go hF h fun β' a' W' hE hR => valid_wp hF (fun β2 a2 W2 hE2 hR2 => hQ β2 a2 W2 (hE.trans hE2) hR2) hR hv (fun e' he' => hp e' (by simp [he']))
end
end Go.Sx
/-
  A symbolic executor for the model's code, seventh part: a region in any order; code.
-/
namespace Go.Sx
open Go Go.RowKit
def ancOf (A : List Nat) (o : Oper) : Nat :=
  o.after.toList.foldl (fun s e => bif Region.binds .any e then Nat.lor (Nat.lor s (2 ^ e.on)) (A.getD e.on 0) else s) 0
def ancs : List Oper → List Nat → List Nat
  | [], acc => acc
  | o :: r, acc => ancs r (acc ++ [ancOf acc o])
theorem fold_bit (A : List Nat) (x : Nat) : ∀ (l : List Edge) (s : Nat), (l.foldl (fun s e => bif Region.binds .any e then Nat.lor (Nat.lor s (2 ^ e.on)) (A.getD e.on 0) else s) s).testBit x = true →
    s.testBit x = true ∨ ∃ e ∈ l, Region.binds .any e = true ∧ (e.on = x ∨ (A.getD e.on 0).testBit x = true)
  | [], s, h => .inl h
  | e :: r, s, h => by
    rcases fold_bit A x r _ h with h | ⟨e', he', hb, hx⟩
    · cases hb : Region.binds .any e with
      | false => simp only [hb, cond_false] at h; exact .inl h
      | true =>
        simp only [hb, cond_true] at h
        have h' : ((s ||| 2 ^ e.on) ||| A.getD e.on 0).testBit x = true := h
        rw [Nat.testBit_or, Nat.testBit_or, Bool.or_eq_true, Bool.or_eq_true] at h'
        rcases h' with (h' | h') | h'
        · exact .inl h'
        · refine .inr ⟨e, by simp, hb, .inl ?_⟩
          rw [Nat.testBit_two_pow] at h'
          simpa using h'
        · exact .inr ⟨e, by simp, hb, .inr h'⟩
    · exact .inr ⟨e', by simp [he'], hb, hx⟩
def edgesOk : Nat → List Oper → Bool
  | _, [] => true
  | i, o :: r => (o.after.toList.all fun e => !Region.binds .any e || Nat.blt e.on i) && edgesOk (i + 1) r
def ancsOk (A : List Nat) : Nat → List Oper → Bool
  | _, [] => true
  | i, o :: r => Nat.beq (A.getD i 0) (ancOf A o) && ancsOk A (i + 1) r
def pairOk (A : List Nat) (x e : Ent) : Bool := Nat.blt x.i e.i && (Nat.testBit (A.getD e.i 0) x.i || indep x e)
def pairsOk (A : List Nat) : List Ent → Bool
  | [] => true
  | x :: r => r.all (fun e => pairOk A x e) && pairsOk A r
def drawOk (ops : Array Oper) (L : List Ent) : Bool :=
  edgesOk 0 ops.toList && (ancsOk (ancs ops.toList []) 0 ops.toList && pairsOk (ancs ops.toList []) L)
def cutOk (A : List Nat) (j : Nat) : Nat → Bool
  | 0 => true
  | k + 1 => (Nat.beq k j || (bif Nat.blt k j then Nat.testBit (A.getD j 0) k else Nat.testBit (A.getD k 0) j)) && cutOk A j k
def drawPOk (ops : Array Oper) (L : List Ent) (j : Nat) : Bool :=
  drawOk ops L && cutOk (ancs ops.toList []) j ops.size
theorem cutOk_spec {A : List Nat} {j : Nat} : ∀ {n : Nat}, cutOk A j n = true → ∀ k, k < n → (k < j → (A.getD j 0).testBit k = true) ∧ (j < k → (A.getD k 0).testBit j = true)
  | 0, _, k, hk => by omega
  | n + 1, h, k, hk => by
    simp only [cutOk, Bool.and_eq_true, Bool.or_eq_true] at h
    by_cases e : k = n
    · subst e
      rcases h.1 with h1 | h1
      · have := Nat.eq_of_beq_eq_true h1
        exact ⟨fun _ => by omega, fun _ => by omega⟩
      · cases hb : Nat.blt k j with
        | true =>
          rw [hb] at h1
          have : k < j := by simpa [Nat.blt_eq] using hb
          exact ⟨fun _ => h1, fun _ => by omega⟩
        | false =>
          rw [hb] at h1
          have : ¬ k < j := fun hlt => by
            have : Nat.blt k j = true := by simpa [Nat.blt_eq] using hlt
            rw [hb] at this; cases this
          exact ⟨fun _ => by omega, fun _ => h1⟩
    · exact cutOk_spec h.2 k (by omega)
theorem edgesOk_spec : ∀ {l : List Oper} {i : Nat}, edgesOk i l = true → ∀ j o, l[j]? = some o → ∀ e ∈ o.after.toList, Region.binds .any e = true → e.on < i + j
  | [], i, _, j, o, hj, _, _, _ => by simp at hj
  | o' :: r, i, h, j, o, hj, e, he, hb => by
    simp only [edgesOk, Bool.and_eq_true] at h
    cases j with
    | zero =>
      simp only [List.getElem?_cons_zero, Option.some.injEq] at hj
      subst hj
      have := List.all_eq_true.1 h.1 e he
      rw [hb] at this
      simpa [Nat.blt_eq] using this
    | succ j =>
      simp only [List.getElem?_cons_succ] at hj
      have := edgesOk_spec h.2 j o hj e he hb
      omega
theorem ancsOk_spec {A : List Nat} : ∀ {l : List Oper} {i : Nat}, ancsOk A i l = true → ∀ j o, l[j]? = some o → A.getD (i + j) 0 = ancOf A o
  | [], i, _, j, o, hj => by simp at hj
  | o' :: r, i, h, j, o, hj => by
    simp only [ancsOk, Bool.and_eq_true] at h
    cases j with
    | zero =>
      simp only [List.getElem?_cons_zero, Option.some.injEq] at hj
      subst hj
      exact Nat.eq_of_beq_eq_true h.1
    | succ j =>
      simp only [List.getElem?_cons_succ] at hj
      have := ancsOk_spec h.2 j o hj
      rw [show i + (j + 1) = i + 1 + j from by omega]
      exact this
theorem pairsOk_spec {A : List Nat} : ∀ {L : List Ent}, pairsOk A L = true → L.Pairwise fun x e => x.i < e.i ∧ ((A.getD e.i 0).testBit x.i = true ∨ indep x e = true)
  | [], _ => .nil
  | x :: r, h => by
    simp only [pairsOk, Bool.and_eq_true] at h
    refine List.Pairwise.cons (fun e he => ?_) (pairsOk_spec h.2)
    have := List.all_eq_true.1 h.1 e he
    simp only [pairOk, Bool.and_eq_true, Bool.or_eq_true] at this
    exact ⟨by simpa [Nat.blt_eq] using this.1, this.2⟩
section
variable {P : Program} {w0 : World} {B N : Nat} {O : Fr} {m : Nat} {cts : Cts P} {F : Fence} {n : Nat} {ops : Array Oper} {Q : Exit → Act → World → Prop} {S' : St} {A : List Nat}
theorem closed (hlt : ∀ j o, ops[j]? = some o → ∀ e ∈ o.after.toList, Region.binds .any e = true → e.on < j) (hA : ∀ j o, ops[j]? = some o → A.getD j 0 = ancOf A o) (hA0 : ∀ j, ops[j]? = none → A.getD j 0 = 0) {Lst : Nat → Prop}
    (dc : ∀ k o e, ops[k]? = some o → Lst k → e ∈ o.after.toList → Region.binds .any e = true → Lst e.on) (x : Nat) :
    ∀ j o, ops[j]? = some o → (∀ e ∈ o.after.toList, Region.binds .any e = true → Lst e.on) → (A.getD j 0).testBit x = true → Lst x := by
  intro j
  induction j using Nat.strongRecOn with
  | _ j ih =>
    intro o ho hp hx
    rw [hA j o ho] at hx
    rcases fold_bit A x _ _ hx with h | ⟨e, he, hb, h⟩
    · simp at h
    · rcases h with rfl | h
      · exact hp e he hb
      · cases hoe : ops[e.on]? with
        | none => rw [hA0 _ hoe] at h; simp at h
        | some oe => exact ih e.on (hlt j o ho e he hb) oe hoe (fun e' he' hb' => dc e.on oe e' hoe (hp e he hb) he' hb') h
theorem mem_ready {md : Region.Mode} {listed : Array Bool} {i : Nat} : i ∈ Region.ready md ops listed ↔ i < ops.size ∧ listed.getD i true = false ∧ ∃ o, ops[i]? = some o ∧ ∀ e ∈ o.after.toList, Region.binds md e = true → listed.getD e.on false = true := by
  unfold Region.ready
  simp only [List.mem_filter, List.mem_range, Bool.and_eq_true, Bool.not_eq_true']
  constructor
  · rintro ⟨h1, h2, h3⟩
    refine ⟨h1, h2, ?_⟩
    cases ho : ops[i]? with
    | none => simp [ho] at h3
    | some o =>
      refine ⟨o, rfl, fun e he hb => ?_⟩
      simp only [ho, Option.map_some, Option.getD_some, Array.all_eq_true_iff_forall_mem] at h3
      have := h3 e (by simpa using he)
      simpa [hb] using this
  · rintro ⟨h1, h2, o, ho, h3⟩
    refine ⟨h1, h2, ?_⟩
    simp only [ho, Option.map_some, Option.getD_some, Array.all_eq_true_iff_forall_mem]
    intro e he
    cases hb : Region.binds md e with
    | false => simp
    | true => simpa [hb] using h3 e (by simpa using he) hb
theorem any_wp (hF : Loose F)
    (hlt : ∀ j o, ops[j]? = some o → ∀ e ∈ o.after.toList, Region.binds .any e = true → e.on < j) (hA : ∀ j o, ops[j]? = some o → A.getD j 0 = ancOf A o) (hA0 : ∀ j, ops[j]? = none → A.getD j 0 = 0) :
    ∀ (k : Nat) {L : List Ent} {β : Ren} {S : St} {a : Act} {W : World} {listed : Array Bool}, (∀ β' a W, Ext β β' → R β' w0 B N O m S' a W → Q .normal a W) → L.length = k → R β w0 B N O m S a W → Valid P cts N ops S' S L → (∀ e ∈ L, ∀ p ∈ e.ps, p) →
      listed.size = ops.size → (∀ i, i < ops.size → (listed.getD i true = false ↔ ∃ e ∈ L, e.i = i)) → (∀ e ∈ L, e.i < ops.size) →
      (∀ k o e, ops[k]? = some o → listed.getD k false = true → e ∈ o.after.toList → Region.binds .any e = true → listed.getD e.on false = true) →
      (L.Pairwise fun x e => x.i < e.i ∧ ((A.getD e.i 0).testBit x.i = true ∨ indep x e = true)) → wpAnyIn F n P .any ops Q k listed a W := by
  intro k
  induction k with
  | zero =>
    intro L β S a W listed hQ hm h hv hp hsz hun _ _ _
    obtain rfl : L = [] := List.length_eq_zero_iff.1 hm
    refine ⟨?_, hQ β a W (.refl _) (h.congr hv)⟩
    apply List.eq_nil_iff_forall_not_mem.2
    intro i hi
    obtain ⟨h1, h2, _⟩ := mem_ready.1 hi
    obtain ⟨e, he, _⟩ := (hun i h1).1 h2
    simp at he
  | succ k ih =>
    intro L β S a W listed hQ hm h hv hp hsz hun hin dc hpw
    have lst : ∀ i, i < ops.size → listed.getD i true ≠ false → listed.getD i false = true := by
      intro i hi hne
      have hi' : i < listed.size := by omega
      simp only [Array.getD, hi', dif_pos] at hne ⊢
      simpa using hne
    refine ⟨fun hnil => ?_, ?_⟩
    · exfalso
      cases L with
      | nil => simp at hm
      | cons e0 r =>
        have hi0 := hin e0 (by simp)
        have : e0.i ∈ Region.ready .any ops listed := by
          refine mem_ready.2 ⟨hi0, (hun _ hi0).2 ⟨e0, by simp, rfl⟩, ops[e0.i], by simp [hi0], fun e he hb => ?_⟩
          have hlt' := hlt e0.i _ (by simp [hi0]) e he hb
          refine lst _ (by omega) (fun hf => ?_)
          obtain ⟨e1, he1, hi1⟩ := (hun e.on (by omega)).1 hf
          rcases List.mem_cons.1 he1 with rfl | he1
          · omega
          · have := (List.rel_of_pairwise_cons hpw he1).1
            omega
        rw [hnil] at this
        simp at this
    · intro i hi
      obtain ⟨hi1, hi2, o, ho, hpre⟩ := mem_ready.1 hi
      obtain ⟨e, he, rfl⟩ := (hun _ hi1).1 hi2
      obtain ⟨p, q, rfl⟩ := List.append_of_mem he
      have hpw' := List.pairwise_append.1 hpw
      have hind : ∀ x ∈ p, indep x e = true := by
        intro x hx
        have h3 := hpw'.2.2 x hx e (by simp)
        rcases h3.2 with h3 | h3
        · exfalso
          have hl := closed (Lst := fun k => listed.getD k false = true) hlt hA hA0 dc x.i e.i o ho hpre h3
          have hx1 := hin x (by simp [hx])
          have hx2 := (hun x.i hx1).2 ⟨x, by simp [hx], rfl⟩
          have hx' : x.i < listed.size := by omega
          simp only [Array.getD, hx', dif_pos] at hx2 hl
          rw [hx2] at hl
          cases hl
        · exact h3
      obtain ⟨T, hl, hv'⟩ := (Valid.front hind hv).first (hp e (by simp))
      refine hl.go hF h fun β' a' W' hE hR => ?_
      have hsub : ∀ {x}, x ∈ p ++ q → x ∈ p ++ e :: q := fun hx => by
        rcases List.mem_append.1 hx with hx | hx <;> simp [hx]
      have hne : ∀ x ∈ p ++ q, x.i ≠ e.i := by
        intro x hx
        rcases List.mem_append.1 hx with hx | hx
        · have := (hpw'.2.2 x hx e (by simp)).1; omega
        · have := (List.rel_of_pairwise_cons hpw'.2.1 hx).1; omega
      have setD : ∀ k d, (listed.setIfInBounds e.i true).getD k d = if k = e.i then true else listed.getD k d := by
        intro k d
        have hi' : e.i < listed.size := by omega
        by_cases hk : k = e.i
        · subst hk; simp [Array.getD, hi']
        · rw [if_neg hk]
          by_cases hk2 : k < listed.size
          · simp [Array.getD, hk2, Array.getElem_setIfInBounds_ne, Ne.symm hk]
          · simp [Array.getD, hk2]
      refine ih (fun β2 a2 W2 hE2 hR2 => hQ β2 a2 W2 (hE.trans hE2) hR2) (by simp at hm ⊢; omega) hR hv' (fun x hx => hp x (hsub hx)) (by simpa using hsz) ?_ (fun x hx => hin x (hsub hx)) ?_ ?_
      · intro k hk
        rw [setD]
        by_cases hk2 : k = e.i
        · simp only [hk2, if_true]
          constructor
          · intro hf; cases hf
          · rintro ⟨x, hx, hxk⟩; exact absurd hxk (hne x hx)
        · rw [if_neg hk2, hun k hk]
          constructor
          · rintro ⟨x, hx, rfl⟩
            rcases List.mem_append.1 hx with hx | hx
            · exact ⟨x, by simp [hx], rfl⟩
            · rcases List.mem_cons.1 hx with rfl | hx
              · exact absurd rfl hk2
              · exact ⟨x, by simp [hx], rfl⟩
          · rintro ⟨x, hx, rfl⟩; exact ⟨x, hsub hx, rfl⟩
      · intro k o2 e2 hk hl he2 hb2
        rw [setD] at hl ⊢
        by_cases hk2 : e2.on = e.i
        · rw [if_pos hk2]
        · rw [if_neg hk2]
          by_cases hk3 : k = e.i
          · subst hk3
            rw [ho] at hk
            cases hk
            exact hpre e2 he2 hb2
          · rw [if_neg hk3] at hl
            exact dc k o2 e2 hk hl he2 hb2
      · refine List.pairwise_append.2 ⟨hpw'.1, (List.pairwise_cons.1 hpw'.2.1).2, fun x hx y hy => hpw'.2.2 x hx y (by simp [hy])⟩
theorem any_wpP (hF : Loose F) {j : Nat} {T0 : St} {v : Value} (hj : j < ops.size) (hpan : Pans P N ops j S' T0 v) (hcut : ∀ k, k < ops.size → (k < j → (A.getD j 0).testBit k = true) ∧ (j < k → (A.getD k 0).testBit j = true))
    (hlt : ∀ j o, ops[j]? = some o → ∀ e ∈ o.after.toList, Region.binds .any e = true → e.on < j) (hA : ∀ j o, ops[j]? = some o → A.getD j 0 = ancOf A o) (hA0 : ∀ j, ops[j]? = none → A.getD j 0 = 0) :
    ∀ (k : Nat) {L : List Ent} {β : Ren} {S : St} {a : Act} {W : World} {listed : Array Bool}, (∀ β' a W, Ext β β' → R β' w0 B N O m T0 a W → Q (.panic [{ v, recovered := false }]) a W) → L.length = k → R β w0 B N O m S a W → Valid P cts N ops S' S L → (∀ e ∈ L, ∀ p ∈ e.ps, p) →
      listed.size = ops.size → (∀ i, i < ops.size → (listed.getD i true = false ↔ (∃ e ∈ L, e.i = i) ∨ j ≤ i)) → (∀ e ∈ L, e.i < j) →
      (∀ k o e, ops[k]? = some o → listed.getD k false = true → e ∈ o.after.toList → Region.binds .any e = true → listed.getD e.on false = true) →
      (L.Pairwise fun x e => x.i < e.i ∧ ((A.getD e.i 0).testBit x.i = true ∨ indep x e = true)) → wpAnyIn F n P .any ops Q (k + (ops.size - j)) listed a W := by
  intro k
  induction k with
  | zero =>
    intro L β S a W listed hQ hm h hv hp hsz hun _ dc _
    obtain rfl : L = [] := List.length_eq_zero_iff.1 hm
    have lst : ∀ i, i < ops.size → listed.getD i true ≠ false → listed.getD i false = true := by
      intro i hi hne
      have hi' : i < listed.size := by omega
      simp only [Array.getD, hi', dif_pos] at hne ⊢
      simpa using hne
    obtain ⟨k', hk'⟩ : ∃ k', 0 + (ops.size - j) = k' + 1 := ⟨ops.size - j - 1, by omega⟩
    rw [hk']
    have hR' := h.congr hv
    refine ⟨fun hnil => ?_, ?_⟩
    · exfalso
      have : j ∈ Region.ready .any ops listed := by
        refine mem_ready.2 ⟨hj, (hun _ hj).2 (.inr (Nat.le_refl _)), ops[j], by simp [hj], fun e he hb => ?_⟩
        have hlt' := hlt j _ (by simp [hj]) e he hb
        refine lst _ (by omega) (fun hf => ?_)
        rcases (hun e.on (by omega)).1 hf with ⟨e1, he1, _⟩ | h1
        · simp at he1
        · omega
      rw [hnil] at this
      simp at this
    · intro i hi
      obtain ⟨hi1, hi2, o, ho, hpre⟩ := mem_ready.1 hi
      have hij : i = j := by
        rcases (hun _ hi1).1 hi2 with ⟨e1, he1, _⟩ | h1
        · simp at he1
        · rcases Nat.lt_or_ge j i with hlt' | hge
          · exfalso
            have hl := closed (Lst := fun k => listed.getD k false = true) hlt hA hA0 dc j i o ho hpre ((hcut i hi1).2 hlt')
            have hx2 := (hun j hj).2 (.inr (Nat.le_refl _))
            have hx' : j < listed.size := by omega
            simp only [Array.getD, hx', dif_pos] at hx2 hl
            rw [hx2] at hl
            cases hl
          · omega
      subst hij
      exact hpan.go hF hR' fun β' W' hE hR => hQ β' a W' hE hR
  | succ k ih =>
    intro L β S a W listed hQ hm h hv hp hsz hun hin dc hpw
    rw [show k + 1 + (ops.size - j) = (k + (ops.size - j)) + 1 by omega]
    have lst : ∀ i, i < ops.size → listed.getD i true ≠ false → listed.getD i false = true := by
      intro i hi hne
      have hi' : i < listed.size := by omega
      simp only [Array.getD, hi', dif_pos] at hne ⊢
      simpa using hne
    refine ⟨fun hnil => ?_, ?_⟩
    · exfalso
      cases L with
      | nil => simp at hm
      | cons e0 r =>
        have hi00 := hin e0 (by simp)
        have hi0 : e0.i < ops.size := by omega
        have : e0.i ∈ Region.ready .any ops listed := by
          refine mem_ready.2 ⟨hi0, (hun _ hi0).2 (.inl ⟨e0, by simp, rfl⟩), ops[e0.i], by simp [hi0], fun e he hb => ?_⟩
          have hlt' := hlt e0.i _ (by simp [hi0]) e he hb
          refine lst _ (by omega) (fun hf => ?_)
          rcases (hun e.on (by omega)).1 hf with ⟨e1, he1, hi1⟩ | h1
          · rcases List.mem_cons.1 he1 with rfl | he1
            · omega
            · have := (List.rel_of_pairwise_cons hpw he1).1
              omega
          · omega
        rw [hnil] at this
        simp at this
    · intro i hi
      obtain ⟨hi1, hi2, o, ho, hpre⟩ := mem_ready.1 hi
      have hne0 : ∃ x0 r0, L = x0 :: r0 := by
        cases L with
        | nil => simp at hm
        | cons x0 r0 => exact ⟨x0, r0, rfl⟩
      have lstd : ∀ x, x < ops.size → (∀ y, y = x → listed.getD y false = true) → ¬ listed.getD x true = false := fun x hx hl hf => by
        have hx' : x < listed.size := by omega
        have hl := hl x rfl
        simp only [Array.getD, hx', dif_pos] at hf hl
        rw [hf] at hl
        cases hl
      have hex : ∃ e ∈ L, e.i = i := by
        rcases (hun _ hi1).1 hi2 with hex | h1
        · exact hex
        · exfalso
          obtain ⟨x0, r0, rfl⟩ := hne0
          have hx0 := hin x0 (by simp)
          rcases Nat.lt_or_ge j i with hlt' | hge
          · have hl := closed (Lst := fun k => listed.getD k false = true) hlt hA hA0 dc j i o ho hpre ((hcut i hi1).2 hlt')
            exact lstd j hj (fun y hy => hy ▸ hl) ((hun j hj).2 (.inr (Nat.le_refl _)))
          · have hij : i = j := by omega
            subst hij
            have hl := closed (Lst := fun k => listed.getD k false = true) hlt hA hA0 dc x0.i i o ho hpre ((hcut x0.i (by omega)).1 hx0)
            exact lstd x0.i (by omega) (fun y hy => hy ▸ hl) ((hun x0.i (by omega)).2 (.inl ⟨x0, by simp, rfl⟩))
      obtain ⟨e, he, rfl⟩ := hex
      obtain ⟨p, q, rfl⟩ := List.append_of_mem he
      have hpw' := List.pairwise_append.1 hpw
      have hind : ∀ x ∈ p, indep x e = true := by
        intro x hx
        have h3 := hpw'.2.2 x hx e (by simp)
        rcases h3.2 with h3 | h3
        · exfalso
          have hl := closed (Lst := fun k => listed.getD k false = true) hlt hA hA0 dc x.i e.i o ho hpre h3
          have hx0 := hin x (by simp [hx])
          have hx1 : x.i < ops.size := by omega
          have hx2 := (hun x.i hx1).2 (.inl ⟨x, by simp [hx], rfl⟩)
          have hx' : x.i < listed.size := by omega
          simp only [Array.getD, hx', dif_pos] at hx2 hl
          rw [hx2] at hl
          cases hl
        · exact h3
      obtain ⟨T, hl, hv'⟩ := (Valid.front hind hv).first (hp e (by simp))
      refine hl.go hF h fun β' a' W' hE hR => ?_
      have hsub : ∀ {x}, x ∈ p ++ q → x ∈ p ++ e :: q := fun hx => by
        rcases List.mem_append.1 hx with hx | hx <;> simp [hx]
      have hne : ∀ x ∈ p ++ q, x.i ≠ e.i := by
        intro x hx
        rcases List.mem_append.1 hx with hx | hx
        · have := (hpw'.2.2 x hx e (by simp)).1; omega
        · have := (List.rel_of_pairwise_cons hpw'.2.1 hx).1; omega
      have setD : ∀ k d, (listed.setIfInBounds e.i true).getD k d = if k = e.i then true else listed.getD k d := by
        intro k d
        have hi' : e.i < listed.size := by omega
        by_cases hk : k = e.i
        · subst hk; simp [Array.getD, hi']
        · rw [if_neg hk]
          by_cases hk2 : k < listed.size
          · simp [Array.getD, hk2, Array.getElem_setIfInBounds_ne, Ne.symm hk]
          · simp [Array.getD, hk2]
      refine ih (fun β2 a2 W2 hE2 hR2 => hQ β2 a2 W2 (hE.trans hE2) hR2) (by simp at hm ⊢; omega) hR hv' (fun x hx => hp x (hsub hx)) (by simpa using hsz) ?_ (fun x hx => hin x (hsub hx)) ?_ ?_
      · intro k hk
        rw [setD]
        by_cases hk2 : k = e.i
        · simp only [hk2, if_true]
          constructor
          · intro hf; cases hf
          · rintro (⟨x, hx, hxk⟩ | hxk)
            · exact absurd hxk (hne x hx)
            · have := hin e (by simp); omega
        · rw [if_neg hk2, hun k hk]
          constructor
          · rintro (⟨x, hx, rfl⟩ | hxk)
            · rcases List.mem_append.1 hx with hx | hx
              · exact .inl ⟨x, by simp [hx], rfl⟩
              · rcases List.mem_cons.1 hx with rfl | hx
                · exact absurd rfl hk2
                · exact .inl ⟨x, by simp [hx], rfl⟩
            · exact .inr hxk
          · rintro (⟨x, hx, rfl⟩ | hxk)
            · exact .inl ⟨x, hsub hx, rfl⟩
            · exact .inr hxk
      · intro k o2 e2 hk hl he2 hb2
        rw [setD] at hl ⊢
        by_cases hk2 : e2.on = e.i
        · rw [if_pos hk2]
        · rw [if_neg hk2]
          by_cases hk3 : k = e.i
          · subst hk3
            rw [ho] at hk
            cases hk
            exact hpre e2 he2 hb2
          · rw [if_neg hk3] at hl
            exact dc k o2 e2 hk hl he2 hb2
      · refine List.pairwise_append.2 ⟨hpw'.1, (List.pairwise_cons.1 hpw'.2.1).2, fun x hx y hy => hpw'.2.2 x hx y (by simp [hy])⟩
def cutLt (A : List Nat) (j : Nat) : Nat → Bool
  | 0 => true
  | k + 1 => Nat.testBit (A.getD j 0) k && cutLt A j k
theorem cutLt_spec {A : List Nat} {j : Nat} : ∀ {n : Nat}, cutLt A j n = true → ∀ k, k < n → (A.getD j 0).testBit k = true
  | 0, _, k, hk => by omega
  | n + 1, h, k, hk => by
    simp only [cutLt, Bool.and_eq_true] at h
    by_cases e : k = n
    · subst e; exact h.1
    · exact cutLt_spec h.2 k (by omega)
def wrIn (D : Dr) : List Wr → Bool
  | [] => true
  | .t d _ :: r => memN d D.t && wrIn D r
  | .b d _ _ :: r => memN d D.u && wrIn D r
  | .u d :: r => memN d D.u && wrIn D r
  | .r _ _ :: _ => false
theorem wrIn_spec {D : Dr} : ∀ {ws : List Wr}, wrIn D ws = true → ∀ l ∈ ws.map Wr.loc, ¬ D.keeps l
  | [], _, l, hl => by simp at hl
  | .t d x :: r, h, l, hl => by
    simp only [wrIn, Bool.and_eq_true] at h
    rcases List.mem_cons.1 (show l ∈ Wr.loc (.t d x) :: r.map Wr.loc from hl) with rfl | hl
    · intro hk
      have hk : memN d D.t = false := hk
      rw [h.1] at hk; cases hk
    · exact wrIn_spec h.2 l hl
  | .b d c ty :: r, h, l, hl => by
    simp only [wrIn, Bool.and_eq_true] at h
    rcases List.mem_cons.1 (show l ∈ Wr.loc (.b d c ty) :: r.map Wr.loc from hl) with rfl | hl
    · intro hk
      have hk : memN d D.u = false := hk
      rw [h.1] at hk; cases hk
    · exact wrIn_spec h.2 l hl
  | .u d :: r, h, l, hl => by
    simp only [wrIn, Bool.and_eq_true] at h
    rcases List.mem_cons.1 (show l ∈ Wr.loc (.u d) :: r.map Wr.loc from hl) with rfl | hl
    · intro hk
      have hk : memN d D.u = false := hk
      rw [h.1] at hk; cases hk
    · exact wrIn_spec h.2 l hl
  | .r _ _ :: _, h, _, _ => by simp [wrIn] at h
def noBig : List Ent → Bool
  | [] => true
  | e :: r => e.big.isNone && noBig r
theorem noBig_spec : ∀ {L : List Ent}, noBig L = true → ∀ e ∈ L, e.big = none
  | [], _, e, he => by simp at he
  | x :: r, h, e, he => by
    simp only [noBig, Bool.and_eq_true] at h
    rcases List.mem_cons.1 he with rfl | he
    · simpa using h.1
    · exact noBig_spec h.2 e he
def looseL (P : Program) (cts : Cts P) (N : Nat) (ops : Array Oper) (A : List Nat) (j base : Nat) : List Oper → Nat → St → Option (List Ent)
  | [], _, _ => some []
  | o :: r, i, S => match Nat.testBit (A.getD i 0) j with
    | true => looseL P cts N ops A j base r (i + 1) S
    | false => match (sop P cts N ops o (base + i) .lit).run S with
      | some ((wr, ps), rd) => match looseL P cts N ops A j base r (i + 1) (S.puts wr) with
        | some L => some (⟨i, base + i, .lit, wr, ps, rd, none⟩ :: L)
        | none => none
      | none => none
def loosePOk (ops : Array Oper) (base : Nat) (L L2 : List Ent) (j : Nat) : Bool :=
  edgesOk 0 ops.toList && (ancsOk (ancs ops.toList []) 0 ops.toList && (pairsOk (ancs ops.toList []) (L ++ L2) && (cutLt (ancs ops.toList []) j j && (noBig L && L2.all fun e => wrIn (laterD ops base j) e.wr))))
def looseIx (A : List Nat) (j : Nat) : Nat → Nat → List Nat
  | _, 0 => []
  | i, k + 1 => match Nat.testBit (A.getD i 0) j with
    | true => looseIx A j (i + 1) k
    | false => i :: looseIx A j (i + 1) k
theorem mem_looseIx {A : List Nat} {j x : Nat} : ∀ {k i : Nat}, x ∈ looseIx A j i k ↔ i ≤ x ∧ x < i + k ∧ (A.getD x 0).testBit j = false
  | 0, i => by simp [looseIx]; omega
  | k + 1, i => by
    simp only [looseIx]
    split
    · rename_i hb
      rw [mem_looseIx]
      constructor
      · rintro ⟨h1, h2, h3⟩; exact ⟨by omega, by omega, h3⟩
      · rintro ⟨h1, h2, h3⟩
        refine ⟨?_, by omega, h3⟩
        rcases Nat.lt_or_ge i x with h | h
        · omega
        · have : x = i := by omega
          subst this
          have hb : (A.getD x 0).testBit j = true := hb
          rw [h3] at hb; cases hb
    · rename_i hb
      rw [List.mem_cons, mem_looseIx]
      constructor
      · rintro (rfl | ⟨h1, h2, h3⟩)
        · exact ⟨Nat.le_refl _, by omega, hb⟩
        · exact ⟨by omega, by omega, h3⟩
      · rintro ⟨h1, h2, h3⟩
        by_cases e : x = i
        · exact .inl e
        · exact .inr ⟨by omega, by omega, h3⟩
section
variable {P : Program} {w0 : World} {B N : Nat} {O : Fr} {m : Nat} {cts : Cts P} {F : Fence} {n : Nat} {ops : Array Oper} {Q : Exit → Act → World → Prop} {A : List Nat}
theorem looseL_spec {j base : Nat} : ∀ {l : List Oper} {i : Nat} {S : St} {L : List Ent}, ops.toList.drop i = l → looseL P cts N ops A j base l i S = some L → ∃ S', Valid P cts N ops S' S L ∧ L.map (·.i) = looseIx A j i l.length ∧ noBig L = true
  | [], i, S, L, _, h => by
    simp only [looseL, Option.some.injEq] at h
    subst h
    exact ⟨S, fun _ => rfl, rfl, rfl⟩
  | o :: r, i, S, L, hl, h => by
    have hi : ops[i]? = some o := by
      have : (ops.toList.drop i)[0]? = some o := by rw [hl]; rfl
      simpa using this
    have hd : ops.toList.drop (i + 1) = r := by
      have : (ops.toList.drop i).drop 1 = r := by rw [hl]; rfl
      simpa [List.drop_drop] using this
    simp only [looseL] at h
    split at h
    · rename_i hb
      obtain ⟨S', h1, h2, h3⟩ := looseL_spec hd h
      refine ⟨S', h1, ?_, h3⟩
      rw [List.length_cons, looseIx, hb]
      exact h2
    · rename_i hb
      split at h
      · rename_i wr ps rd hr
        split at h
        · rename_i L' hrest
          simp only [Option.some.injEq] at h
          subst h
          obtain ⟨S', h1, h2, h3⟩ := looseL_spec hd hrest
          refine ⟨S', ?_, ?_, h3⟩
          · rw [Valid]
            exact ⟨⟨o, hi, hr⟩, h1⟩
          · rw [List.length_cons, looseIx, hb, List.map_cons, h2]
        · cases h
      · cases h
theorem Valid.firstN {S' : St} {e : Ent} {r : List Ent} {S : St} (hb : e.big = none) (hv : Valid P cts N ops S' S (e :: r)) (hp : ∀ p ∈ e.ps, p) : Leads P N ops e.i S (S.puts e.wr) ∧ Valid P cts N ops S' (S.puts e.wr) r := by
  rw [Valid, hb] at hv
  obtain ⟨⟨o, ho, hr⟩, hv⟩ := hv
  exact ⟨⟨fun hF hR hK => sop_wp hF ho hR hr hp hK⟩, hv⟩
theorem ready_ne (hlt : ∀ j o, ops[j]? = some o → ∀ e ∈ o.after.toList, Region.binds .any e = true → e.on < j) {listed : Array Bool} (hsz : listed.size = ops.size) :
    ∀ j, j < ops.size → listed.getD j true = false → Region.ready .any ops listed ≠ [] := by
  intro j
  induction j using Nat.strongRecOn with
  | _ j ih =>
    intro hj hl hnil
    by_cases h : ∃ k, k < j ∧ listed.getD k true = false
    · obtain ⟨k, hk, hk2⟩ := h
      exact ih k hk (by omega) hk2 hnil
    · have : j ∈ Region.ready .any ops listed := by
        refine mem_ready.2 ⟨hj, hl, ops[j], by simp [hj], fun e he hb => ?_⟩
        have hlt' := hlt j _ (by simp [hj]) e he hb
        have hne : listed.getD e.on true ≠ false := fun hf => h ⟨e.on, hlt', hf⟩
        have hi' : e.on < listed.size := by omega
        simp only [Array.getD, hi', dif_pos] at hne ⊢
        simpa using hne
      rw [hnil] at this
      simp at this
theorem Valid.append {S1 S2 : St} : ∀ {L L2 : List Ent} {S : St}, Valid P cts N ops S1 S L → Valid P cts N ops S2 S1 L2 → Valid P cts N ops S2 S (L ++ L2)
  | [], L2, S, h, h2 => by exact h2.congr fun l => (h l).symm
  | e :: r, L2, S, h, h2 => by
    rw [List.cons_append, Valid]
    rw [Valid] at h
    cases hb : e.big with
    | none => rw [hb] at h; exact ⟨h.1, Valid.append h.2 h2⟩
    | some T => rw [hb] at h; exact ⟨h.1, Valid.append h.2 h2⟩
theorem any_wpL (hF : Loose F) {j c : Nat} {T0 Sj S' : St} {v : Value} {D : Dr} (hj : j < ops.size) (hpan : Pans P N ops j (dropT D Sj) T0 v) (hcut : ∀ k, k < j → (A.getD j 0).testBit k = true)
    (hlt : ∀ j o, ops[j]? = some o → ∀ e ∈ o.after.toList, Region.binds .any e = true → e.on < j) (hA : ∀ j o, ops[j]? = some o → A.getD j 0 = ancOf A o) (hA0 : ∀ j, ops[j]? = none → A.getD j 0 = 0) :
    ∀ (k : Nat) {L : List Ent} {β : Ren} {S S1 : St} {a : Act} {W : World} {listed : Array Bool}, (∀ β' a W, Ext β β' → R β' w0 B N O m T0 a W → Q (.panic [{ v, recovered := false }]) a W) → L.length = k → R β w0 B N O m S a W →
      Valid P cts N ops S' S L → Valid P cts N ops Sj S1 (L.filter fun e => decide (e.i < j)) → (∀ l, D.keeps l → S1.get l = S.get l) → (∀ e ∈ L, e.big = none) → (∀ e ∈ L, ¬ e.i < j → wrIn D e.wr = true) → (∀ e ∈ L, ∀ p ∈ e.ps, p) →
      listed.size = ops.size → (∀ i, i < ops.size → (listed.getD i true = false ↔ (∃ e ∈ L, e.i = i) ∨ (i = j ∨ (A.getD i 0).testBit j = true))) → (∀ e ∈ L, e.i < ops.size ∧ e.i ≠ j ∧ (A.getD e.i 0).testBit j = false) →
      (∀ k o e, ops[k]? = some o → listed.getD k false = true → e ∈ o.after.toList → Region.binds .any e = true → listed.getD e.on false = true) →
      (L.Pairwise fun x e => x.i < e.i ∧ ((A.getD e.i 0).testBit x.i = true ∨ indep x e = true)) → wpAnyIn F n P .any ops Q (k + (c + 1)) listed a W := by
  intro k
  induction k using Nat.strongRecOn with
  | _ k ih =>
    intro L β S S1 a W listed hQ hm h hv hv1 hag hnb hwr hp hsz hun hin dc hpw
    rw [show k + (c + 1) = (k + c) + 1 by omega]
    have lstd : ∀ x, x < ops.size → listed.getD x false = true → ¬ listed.getD x true = false := fun x hx hl hf => by
      have hx' : x < listed.size := by omega
      simp only [Array.getD, hx', dif_pos] at hf hl
      rw [hf] at hl
      cases hl
    refine ⟨fun hnil => (ready_ne hlt hsz j hj ((hun j hj).2 (.inr (.inl rfl))) hnil).elim, ?_⟩
    intro i hi
    obtain ⟨hi1, hi2, o, ho, hpre⟩ := mem_ready.1 hi
    rcases (hun _ hi1).1 hi2 with ⟨e, he, hei⟩ | hij | hdesc
    · subst hei
      obtain ⟨p, q, rfl⟩ := List.append_of_mem he
      have hpw' := List.pairwise_append.1 hpw
      have hind : ∀ x ∈ p, indep x e = true := by
        intro x hx
        have h3 := hpw'.2.2 x hx e (by simp)
        rcases h3.2 with h3 | h3
        · exfalso
          have hl := closed (Lst := fun k => listed.getD k false = true) hlt hA hA0 dc x.i e.i o ho hpre h3
          have hx1 := (hin x (by simp [hx])).1
          exact lstd x.i hx1 hl ((hun x.i hx1).2 (.inl ⟨x, by simp [hx], rfl⟩))
        · exact h3
      have hbe := hnb e (by simp)
      obtain ⟨hl, hv'⟩ := Valid.firstN hbe (Valid.front hind hv) (hp e (by simp))
      refine hl.go hF h fun β' a' W' hE hR => ?_
      have hsub : ∀ {x}, x ∈ p ++ q → x ∈ p ++ e :: q := fun hx => by
        rcases List.mem_append.1 hx with hx | hx <;> simp [hx]
      have hne : ∀ x ∈ p ++ q, x.i ≠ e.i := by
        intro x hx
        rcases List.mem_append.1 hx with hx | hx
        · have := (hpw'.2.2 x hx e (by simp)).1; omega
        · have := (List.rel_of_pairwise_cons hpw'.2.1 hx).1; omega
      have setD : ∀ k d, (listed.setIfInBounds e.i true).getD k d = if k = e.i then true else listed.getD k d := by
        intro k d
        have hi' : e.i < listed.size := by omega
        by_cases hk : k = e.i
        · subst hk; simp [Array.getD, hi']
        · rw [if_neg hk]
          by_cases hk2 : k < listed.size
          · simp [Array.getD, hk2, Array.getElem_setIfInBounds_ne, Ne.symm hk]
          · simp [Array.getD, hk2]
      have hlen : p.length + (q.length + 1) = k := by simpa using hm
      rw [show k + c = (k - 1) + (c + 1) by omega]
      obtain ⟨S1', hv1', hag'⟩ : ∃ S1', Valid P cts N ops Sj S1' ((p ++ q).filter fun e => decide (e.i < j)) ∧ ∀ l, D.keeps l → S1'.get l = (S.puts e.wr).get l := by
        by_cases hej : e.i < j
        · have hf : (p ++ e :: q).filter (fun e => decide (e.i < j)) = p.filter (fun e => decide (e.i < j)) ++ e :: q.filter (fun e => decide (e.i < j)) := by simp [List.filter_append, hej]
          rw [hf] at hv1
          obtain ⟨_, h2⟩ := Valid.firstN hbe (Valid.front (fun x hx => hind x (List.mem_filter.1 hx).1) hv1) (hp e (by simp))
          exact ⟨S1.puts e.wr, by rw [List.filter_append]; exact h2, fun l hl => get_puts_congr l e.wr _ _ (.inr (hag l hl))⟩
        · have hf : (p ++ e :: q).filter (fun e => decide (e.i < j)) = (p ++ q).filter (fun e => decide (e.i < j)) := by simp [List.filter_append, hej]
          rw [hf] at hv1
          refine ⟨S1, hv1, fun l hl => ?_⟩
          rw [get_puts_ne l e.wr S (fun hm => wrIn_spec (hwr e (by simp) hej) l hm hl)]
          exact hag l hl
      refine ih (k - 1) (by omega) (fun β2 a2 W2 hE2 hR2 => hQ β2 a2 W2 (hE.trans hE2) hR2) (by simp; omega) hR hv' hv1' hag' (fun x hx => hnb x (hsub hx)) (fun x hx => hwr x (hsub hx)) (fun x hx => hp x (hsub hx)) (by simpa using hsz) ?_ (fun x hx => hin x (hsub hx)) ?_ ?_
      · intro k hk
        rw [setD]
        by_cases hk2 : k = e.i
        · simp only [hk2, if_true]
          constructor
          · intro hf; cases hf
          · rintro (⟨x, hx, hxk⟩ | hxk | hxk)
            · exact absurd hxk (hne x hx)
            · exact absurd hxk (hin e (by simp)).2.1
            · rw [(hin e (by simp)).2.2] at hxk; cases hxk
        · rw [if_neg hk2, hun k hk]
          constructor
          · rintro (⟨x, hx, rfl⟩ | hxk)
            · rcases List.mem_append.1 hx with hx | hx
              · exact .inl ⟨x, by simp [hx], rfl⟩
              · rcases List.mem_cons.1 hx with rfl | hx
                · exact absurd rfl hk2
                · exact .inl ⟨x, by simp [hx], rfl⟩
            · exact .inr hxk
          · rintro (⟨x, hx, rfl⟩ | hxk)
            · exact .inl ⟨x, hsub hx, rfl⟩
            · exact .inr hxk
      · intro k o2 e2 hk hl he2 hb2
        rw [setD] at hl ⊢
        by_cases hk2 : e2.on = e.i
        · rw [if_pos hk2]
        · rw [if_neg hk2]
          by_cases hk3 : k = e.i
          · subst hk3
            rw [ho] at hk
            cases hk
            exact hpre e2 he2 hb2
          · rw [if_neg hk3] at hl
            exact dc k o2 e2 hk hl he2 hb2
      · refine List.pairwise_append.2 ⟨hpw'.1, (List.pairwise_cons.1 hpw'.2.1).2, fun x hx y hy => hpw'.2.2 x hx y (by simp [hy])⟩
    · subst hij
      have hnone : L.filter (fun e => decide (e.i < i)) = [] := by
        rw [List.filter_eq_nil_iff]
        intro e he hlt'
        have hlt' : e.i < i := by simpa using hlt'
        have hl := closed (Lst := fun k => listed.getD k false = true) hlt hA hA0 dc e.i i o ho hpre (hcut e.i hlt')
        exact lstd e.i (hin e he).1 hl ((hun e.i (hin e he).1).2 (.inl ⟨e, he, rfl⟩))
      rw [hnone] at hv1
      have hv1 : ∀ l, Sj.get l = S1.get l := hv1
      exact hpan.go hF (h.outside fun l hl => (hv1 l).trans (hag l hl)) fun β' W' hE hR => hQ β' a W' hE hR
    · exfalso
      have hl := closed (Lst := fun k => listed.getD k false = true) hlt hA hA0 dc j i o ho hpre hdesc
      exact lstd j hj hl ((hun j hj).2 (.inr (.inl rfl)))
theorem anc_lt (hlt : ∀ j o, ops[j]? = some o → ∀ e ∈ o.after.toList, Region.binds .any e = true → e.on < j) (hA : ∀ j o, ops[j]? = some o → A.getD j 0 = ancOf A o) (hA0 : ∀ j, ops[j]? = none → A.getD j 0 = 0) :
    ∀ x y, (A.getD x 0).testBit y = true → y < x := by
  intro x
  induction x using Nat.strongRecOn with
  | _ x ih =>
    intro y h
    cases ho : ops[x]? with
    | none => rw [hA0 x ho] at h; simp at h
    | some o =>
      rw [hA x o ho] at h
      rcases fold_bit A y _ _ h with h | ⟨e, he, hb, h⟩
      · simp at h
      · have hl := hlt x o ho e he hb
        rcases h with rfl | h
        · exact hl
        · have := ih e.on hl y h
          omega
theorem looseIx_len {j : Nat} : ∀ (k i : Nat), (looseIx A j i k).length ≤ k
  | 0, i => by simp [looseIx]
  | k + 1, i => by
    have := looseIx_len (j := j) k (i + 1)
    simp only [looseIx]
    split
    · omega
    · rw [List.length_cons]; omega
end
theorem ancs_length : ∀ (l : List Oper) (acc : List Nat), (ancs l acc).length = acc.length + l.length
  | [], acc => rfl
  | o :: r, acc => by simp [ancs, ancs_length r]; omega
theorem draw_wp {id : Nat} {L : List Ent} {β : Ren} {S : St} {a : Act} {W : World} (hm : P.follows .mixedOrders = true) (hF : Loose F) (hQ : ∀ β' a W, Ext β β' → R β' w0 B N O m S' a W → Q .normal a W)
    (h : R β w0 B N O m S a W) (hv : Valid P cts N ops S' S L) (hL : L.map (·.i) = List.range' 0 ops.size) (hp : ∀ e ∈ L, ∀ p ∈ e.ps, p) (hd : drawOk ops L = true) : (Code.region id ops true).wpIn F n P Q a W := by
  simp only [drawOk, Bool.and_eq_true] at hd
  obtain ⟨h1, h2, h3⟩ := hd
  refine wpIn_region_any hm ?_
  have hlen : L.length = ops.size := by have := congrArg List.length hL; simpa using this
  have hget : ∀ {j : Nat} {o : Oper}, ops[j]? = some o → ops.toList[j]? = some o := fun h => by simpa using h
  have := any_wp (A := ancs ops.toList []) (cts := cts) (n := n) (listed := Array.replicate ops.size false) hF
    (fun j o ho e he hb => by have := edgesOk_spec h1 j o (hget ho) e he hb; omega)
    (fun j o ho => by have := ancsOk_spec h2 j o (hget ho); rwa [Nat.zero_add] at this)
    (fun j hj => by
      have hj' : ops.size ≤ j := by simpa using hj
      have : (ancs ops.toList []).length ≤ j := by rw [ancs_length]; simpa using hj'
      simp [List.getD, List.getElem?_eq_none this])
    L.length hQ rfl h.drew hv hp (by simp) (fun i hi => by
      simp only [Array.getD, Array.size_replicate, hi, dif_pos, Array.getInternal_eq_getElem, Array.getElem_replicate, true_iff]
      have : i ∈ L.map (·.i) := by rw [hL]; simp [List.mem_range', hi]
      obtain ⟨e, he, rfl⟩ := List.mem_map.1 this
      exact ⟨e, he, rfl⟩)
    (fun e he => by
      have : e.i ∈ L.map (·.i) := List.mem_map.2 ⟨e, he, rfl⟩
      rw [hL] at this
      simpa [List.mem_range'] using this)
    (fun k o e hk hl => by
      exfalso
      simp [Array.getD] at hl)
    (pairsOk_spec h3)
  rw [hlen] at this
  exact this
theorem draw_wpP {id : Nat} {L : List Ent} {β : Ren} {S T0 : St} {a : Act} {W : World} {j : Nat} {v : Value} (hm : P.follows .mixedOrders = true) (hF : Loose F) (hj : j < ops.size) (hpan : Pans P N ops j S' T0 v)
    (hQ : ∀ β' a W, Ext β β' → R β' w0 B N O m T0 a W → Q (.panic [{ v, recovered := false }]) a W)
    (h : R β w0 B N O m S a W) (hv : Valid P cts N ops S' S L) (hL : L.map (·.i) = List.range' 0 j) (hp : ∀ e ∈ L, ∀ p ∈ e.ps, p) (hd : drawPOk ops L j = true) : (Code.region id ops true).wpIn F n P Q a W := by
  simp only [drawPOk, drawOk, Bool.and_eq_true] at hd
  obtain ⟨⟨h1, h2, h3⟩, h4⟩ := hd
  refine wpIn_region_any hm ?_
  have hlen : L.length = j := by have := congrArg List.length hL; simpa using this
  have hget : ∀ {j : Nat} {o : Oper}, ops[j]? = some o → ops.toList[j]? = some o := fun h => by simpa using h
  have := any_wpP (A := ancs ops.toList []) (cts := cts) (n := n) (listed := Array.replicate ops.size false) hF hj hpan (cutOk_spec h4)
    (fun j o ho e he hb => by have := edgesOk_spec h1 j o (hget ho) e he hb; omega)
    (fun j o ho => by have := ancsOk_spec h2 j o (hget ho); rwa [Nat.zero_add] at this)
    (fun j hj => by
      have hj' : ops.size ≤ j := by simpa using hj
      have : (ancs ops.toList []).length ≤ j := by rw [ancs_length]; simpa using hj'
      simp [List.getD, List.getElem?_eq_none this])
    L.length hQ rfl h.drew hv hp (by simp) (fun i hi => by
      simp only [Array.getD, Array.size_replicate, hi, dif_pos, Array.getInternal_eq_getElem, Array.getElem_replicate, true_iff]
      rcases Nat.lt_or_ge i j with hij | hij
      · have : i ∈ L.map (·.i) := by rw [hL]; simp [List.mem_range', hij]
        obtain ⟨e, he, rfl⟩ := List.mem_map.1 this
        exact .inl ⟨e, he, rfl⟩
      · exact .inr hij)
    (fun e he => by
      have : e.i ∈ L.map (·.i) := List.mem_map.2 ⟨e, he, rfl⟩
      rw [hL] at this
      simpa [List.mem_range'] using this)
    (fun k o e hk hl => by
      exfalso
      simp [Array.getD] at hl)
    (pairsOk_spec h3)
  rw [hlen, show j + (ops.size - j) = ops.size by omega] at this
  exact this
theorem draw_wpL {id : Nat} {L L2 : List Ent} {β : Ren} {S S2 T0 : St} {a : Act} {W : World} {j base : Nat} {v : Value} (hm : P.follows .mixedOrders = true) (hF : Loose F) (hj : j < ops.size) (hpan : Pans P N ops j (dropT (laterD ops base j) S') T0 v)
    (hQ : ∀ β' a W, Ext β β' → R β' w0 B N O m T0 a W → Q (.panic [{ v, recovered := false }]) a W)
    (h : R β w0 B N O m S a W) (hv : Valid P cts N ops S' S L) (hL : L.map (·.i) = List.range' 0 j) (hv2 : Valid P cts N ops S2 S' L2) (hL2 : L2.map (·.i) = looseIx (ancs ops.toList []) j (j + 1) (ops.size - (j + 1))) (hnb : noBig L2 = true)
    (hp : ∀ e ∈ L ++ L2, ∀ p ∈ e.ps, p) (hd : loosePOk ops base L L2 j = true) : (Code.region id ops true).wpIn F n P Q a W := by
  simp only [loosePOk, Bool.and_eq_true] at hd
  obtain ⟨h1, h2, h3, h4, h5, h6⟩ := hd
  refine wpIn_region_any hm ?_
  have hlen : L.length = j := by have := congrArg List.length hL; simpa using this
  have hlen2 : L2.length ≤ ops.size - (j + 1) := by
    have := congrArg List.length hL2
    rw [List.length_map] at this
    rw [this]
    exact looseIx_len _ _
  have hget : ∀ {j : Nat} {o : Oper}, ops[j]? = some o → ops.toList[j]? = some o := fun h => by simpa using h
  have g1 : ∀ j o, ops[j]? = some o → ∀ e ∈ o.after.toList, Region.binds .any e = true → e.on < j := fun j o ho e he hb => by have := edgesOk_spec h1 j o (hget ho) e he hb; omega
  have g2 : ∀ j o, ops[j]? = some o → (ancs ops.toList []).getD j 0 = ancOf (ancs ops.toList []) o := fun j o ho => by have := ancsOk_spec h2 j o (hget ho); rwa [Nat.zero_add] at this
  have g3 : ∀ j, ops[j]? = none → (ancs ops.toList []).getD j 0 = 0 := fun j hj => by
    have hj' : ops.size ≤ j := by simpa using hj
    have : (ancs ops.toList []).length ≤ j := by rw [ancs_length]; simpa using hj'
    simp [List.getD, List.getElem?_eq_none this]
  have m1 : ∀ e ∈ L, e.i < j := fun e he => by
    have : e.i ∈ L.map (·.i) := List.mem_map.2 ⟨e, he, rfl⟩
    rw [hL] at this
    simpa [List.mem_range'] using this
  have m2 : ∀ e ∈ L2, j + 1 ≤ e.i ∧ e.i < ops.size ∧ ((ancs ops.toList []).getD e.i 0).testBit j = false := fun e he => by
    have : e.i ∈ L2.map (·.i) := List.mem_map.2 ⟨e, he, rfl⟩
    rw [hL2, mem_looseIx] at this
    exact ⟨this.1, by omega, this.2.2⟩
  have hfil : (L ++ L2).filter (fun e => decide (e.i < j)) = L := by
    rw [List.filter_append, List.filter_eq_self.2 (fun e he => by simpa using m1 e he), List.filter_eq_nil_iff.2 (fun e he => by have := (m2 e he).1; simp; omega), List.append_nil]
  have := any_wpL (A := ancs ops.toList []) (cts := cts) (n := n) (Q := Q) (listed := Array.replicate ops.size false) (c := ops.size - (L ++ L2).length - 1) hF hj hpan (fun k hk => cutLt_spec h4 k hk) g1 g2 g3
    (L ++ L2).length hQ rfl h.drew (hv.append hv2) (by rw [hfil]; exact hv) (fun _ _ => rfl)
    (fun e he => by
      rcases List.mem_append.1 he with he | he
      · exact noBig_spec h5 e he
      · exact noBig_spec hnb e he)
    (fun e he hj => by
      rcases List.mem_append.1 he with he | he
      · exact absurd (m1 e he) hj
      · exact List.all_eq_true.1 h6 e he) hp (by simp) (fun i hi => by
      simp only [Array.getD, Array.size_replicate, hi, dif_pos, Array.getInternal_eq_getElem, Array.getElem_replicate, true_iff]
      rcases Nat.lt_trichotomy i j with hij | hij | hij
      · have : i ∈ L.map (·.i) := by rw [hL]; simp [List.mem_range', hij]
        obtain ⟨e, he, rfl⟩ := List.mem_map.1 this
        exact .inl ⟨e, by simp [he], rfl⟩
      · exact .inr (.inl hij)
      · cases hb : ((ancs ops.toList []).getD i 0).testBit j with
        | true => exact .inr (.inr rfl)
        | false =>
          have : i ∈ L2.map (·.i) := by rw [hL2, mem_looseIx]; exact ⟨by omega, by omega, hb⟩
          obtain ⟨e, he, rfl⟩ := List.mem_map.1 this
          exact .inl ⟨e, by simp [he], rfl⟩)
    (fun e he => by
      rcases List.mem_append.1 he with he | he
      · have hlt := m1 e he
        refine ⟨by omega, by omega, ?_⟩
        cases hb : ((ancs ops.toList []).getD e.i 0).testBit j with
        | false => rfl
        | true => have := anc_lt g1 g2 g3 _ _ hb; omega
      · have := m2 e he
        exact ⟨this.2.1, by omega, this.2.2⟩)
    (fun k o e hk hl => by
      exfalso
      simp [Array.getD] at hl)
    (pairsOk_spec h3)
  have hl3 : (L ++ L2).length = L.length + L2.length := List.length_append
  rw [show (L ++ L2).length + (ops.size - (L ++ L2).length - 1 + 1) = ops.size by omega] at this
  exact this
end
end Go.Sx
/-
  A symbolic executor for the model's code, eighth part: code.
-/
namespace Go.Sx
open Go Go.RowKit
inductive Out where
  | normal
  | exit (id : Nat)
  | ret
  | goto (l : Nat)
  | panic (v : Value)
def Out.exit' : Out → Exit
  | .normal => .normal
  | .exit id => .exit id
  | .ret => .ret
  | .goto l => .goto l
  | .panic v => .panic [{ v, recovered := false }]
structure Fin where
  out : Out
  S : St
  ds : List Dec
  ps : List Prop
  cnt : Nat
  m : Nat
structure CodeC (P : Program) where
  c : Code
  N : Nat
  run : St → Option (Out × St × List Prop)
  sound : ∀ {F : Fence} {n : Nat} {w0 : World} {B : Nat} {O : Fr} {m : Nat} {β : Ren} {S : St} {a : Act} {W : World} {Q : Exit → Act → World → Prop} {out : Out} {S' : St} {ps : List Prop}, Loose F → run S = some (out, S', ps) → (∀ p ∈ ps, p) → R β w0 B N O m S a W → (∀ β' a' W', Ext β β' → R β' w0 B N O m S' a' W' → Q out.exit' a' W') → c.wpIn F n P Q a W
def modeOf : Option Value → FrameMode
  | none => .returning
  | some v => .panicking [{ v, recovered := false }]
structure DefC (P : Program) where
  g : Nat
  run : List (Nat × Nat) → Option Value → St → Option St
  sound : ∀ {F : Fence} {n : Nat} {w0 : World} {B N : Nat} {O : Fr} {m : Nat} {β : Ren} {S S' : St} {a : Act} {W : World} {caps : List (Nat × Nat)} {capvs : List Value} {pv : Option Value}, Loose F → F.round = none → run caps pv S = some S' → R β w0 B N O m S a W → adrs β caps = some capvs →
      CallsDIn F n P g capvs.toArray (modeOf pv) W (fun e u' W' => ∃ v β', e = .returned v ∧ settle u' = .returning ∧ Ext β β' ∧ R β' w0 B N O m S' a W')
structure Env (P : Program) where
  cts : Cts P
  lps : List (CodeC P)
  fuel : Nat
  dfs : List (DefC P)
abbrev Sub := Nat → Bool → Code → St → List Dec → Nat → Nat → Option Fin
structure Up where
  big : Big
  code : Sub
def entsPs : List Ent → List Prop → List Prop
  | [], ps => ps
  | e :: r, ps => e.ps ++ entsPs r ps
def readB (S : St) (c : Operand) : Option Bool :=
  match (rdV c).run S with
  | some (.bool b, _) => some b
  | _ => none
def getL {α : Type} : List α → Nat → Option α
  | [], _ => none
  | x :: r, i => match i with
    | 0 => some x
    | i + 1 => getL r i
def handled {P : Program} (E : Env P) (N : Nat) (c : Code) (S : St) (ds : List Dec) (cnt m : Nat) (alt : Option Fin) : Option Fin :=
  match ds with
  | .n k :: r => match getL E.lps k with
    | some h => bif Nat.beq h.N N then
        match h.run S with
        | some (o, S', ps) => some ⟨o, S', r, (h.c = c) :: ps, cnt, m⟩
        | none => none
      else none
    | none => none
  | _ => alt
def iter (f : St → List Dec → Nat → Nat → Option Fin) : Nat → St → List Dec → Nat → Nat → Option Fin
  | 0, _, _, _, _ => none
  | k + 1, S, ds, cnt, m => match f S ds cnt m with
    | some ⟨.normal, S1, ds1, ps1, c1, m1⟩ => match iter f k S1 ds1 c1 m1 with
      | some ⟨o, S2, ds2, ps2, c2, m2⟩ => some ⟨o, S2, ds2, ps1 ++ ps2, c2, m2⟩
      | none => none
    | r => r
def jumps (f : Code → St → List Dec → Nat → Nat → Option Fin) (c : Code) : Nat → Fin → Option Fin
  | k, ⟨.goto l, S, ds, ps, cnt, m⟩ => match findLabel c l with
    | none => some ⟨.goto l, S, ds, ps, cnt, m⟩
    | some rest => match k with
      | 0 => none
      | k + 1 => match f rest S ds cnt m with
        | some r => match jumps f c k r with
          | some ⟨o, S2, ds2, ps2, c2, m2⟩ => some ⟨o, S2, ds2, ps ++ ps2, c2, m2⟩
          | none => none
        | none => none
  | _, r => some r
def funOk (P : Program) (g : Nat) : Bool :=
  match P.funcs[g]? with
  | some fn => fn.body.isSome && !(fn.name == "runtime.NumGoroutine")
  | none => false
def rangeExec (P : Program) (up : Up) (N : Nat) (inR : Bool) (g : Operand) (ps : Array Tmp) (asg body : Code) (S : St) (ds : List Dec) (cnt m : Nat) : Option Fin :=
  bif inR then none else
  match (rdX g).run S with
  | some (.fn gf caps, _) =>
    bif memN cnt S.us || !(Nat.blt cnt gbase && funOk P gf) then none else
    match up.big (.fn gf caps) [.yld cnt] { S with ls := (cnt, ⟨.ready, none, S.ts, N, ps.toList, asg, body⟩) :: S.ls, us := cnt :: S.us } ds (cnt + 1) with
    | some ⟨_, S2, ds2, ps2, c2, none⟩ => match look S2.ls cnt with
      | some q2 => match q2.st with
        | .busy => none
        | _ =>
          let S3 : St := { S2 with ls := (cnt, { q2 with st := .exhausted }) :: S2.ls }
          match q2.pend with
          | none => some ⟨.normal, S3, ds2, ps2, c2, m + 1⟩
          | some .ret => some ⟨.ret, S3, ds2, ps2, c2, m + 1⟩
          | some (.exit id) => some ⟨.exit id, S3, ds2, ps2, c2, m + 1⟩
          | some (.goto l) => some ⟨.goto l, S3, ds2, ps2, c2, m + 1⟩
          | some _ => none
      | none => none
    | _ => none
  | _ => none
def exec (P : Program) (E : Env P) (up : Up) (N : Nat) (inR : Bool) : Code → St → List Dec → Nat → Nat → Option Fin
  | .skip, S, ds, cnt, m => some ⟨.normal, S, ds, [], cnt, m⟩
  | .label _, S, ds, cnt, m => some ⟨.normal, S, ds, [], cnt, m⟩
  | .region _ ops draw, S, ds, cnt, m => match runOps P E.cts up.big N ops cnt ops.toList 0 S ds (cnt + ops.size) with
    | some (L, S', ds', cnt', none) => match draw with
      | false => some ⟨.normal, S', ds', entsPs L [], cnt', m⟩
      | true => bif drawOk ops L then some ⟨.normal, S', ds', entsPs L [], cnt', m⟩ else none
    | some (L, S', ds', cnt', some q) => match draw with
      | false => some ⟨.panic q.v, q.T, ds', entsPs L q.ps, cnt', m⟩
      | true => bif drawPOk ops L q.i then some ⟨.panic q.v, q.T, ds', entsPs L q.ps, cnt', m⟩ else
        match looseL P E.cts N ops (ancs ops.toList []) q.i cnt (ops.toList.drop (q.i + 1)) (q.i + 1) S' with
        | some L2 => bif loosePOk ops cnt L L2 q.i then some ⟨.panic q.v, q.T, ds', entsPs (L ++ L2) q.ps, cnt', m⟩ else none
        | none => none
    | none => none
  | .seq x y, S, ds, cnt, m => match exec P E up N inR x S ds cnt m with
    | some ⟨.normal, S1, ds1, ps1, c1, m1⟩ => match exec P E up N inR y S1 ds1 c1 m1 with
      | some ⟨o, S2, ds2, ps2, c2, m2⟩ => some ⟨o, S2, ds2, ps1 ++ ps2, c2, m2⟩
      | none => none
    | r => r
  | .cond c x y, S, ds, cnt, m => handled E N (.cond c x y) S ds cnt m (match readB S c with
    | some b => match ds with
      | .b true :: r => match exec P E up N inR x S r cnt m with
        | some ⟨o, S1, ds1, ps1, c1, m1⟩ => some ⟨o, S1, ds1, (b = true) :: ps1, c1, m1⟩
        | none => none
      | .b false :: r => match exec P E up N inR y S r cnt m with
        | some ⟨o, S1, ds1, ps1, c1, m1⟩ => some ⟨o, S1, ds1, (b = false) :: ps1, c1, m1⟩
        | none => none
      | ds => match b with
        | true => exec P E up N inR x S ds.tail cnt m
        | false => exec P E up N inR y S ds.tail cnt m
    | none => none)
  | .block id c, S, ds, cnt, m => match exec P E up N inR c S ds cnt m with
    | some ⟨.exit id', S1, ds1, ps1, c1, m1⟩ => bif Nat.beq id' id then some ⟨.normal, S1, ds1, ps1, c1, m1⟩ else some ⟨.exit id', S1, ds1, ps1, c1, m1⟩
    | r => r
  | .loop c, S, ds, cnt, m => handled E N (.loop c) S ds cnt m (iter (fun S ds cnt m => exec P E up N inR c S ds cnt m) E.fuel S ds.tail cnt m)
  | .scope c, S, ds, cnt, m => handled E N (.scope c) S ds cnt m (match exec P E up N inR c S ds.tail cnt m with
    | some r => jumps (fun c S ds cnt m => up.code N inR c S ds cnt m) c E.fuel r
    | none => none)
  | .rangeFunc g ps x y, S, ds, cnt, m => handled E N (.rangeFunc g ps x y) S ds cnt m (rangeExec P up N inR g ps x y S ds.tail cnt m)
  | .exit id, S, ds, cnt, m => some ⟨.exit id, S, ds, [], cnt, m⟩
  | .ret, S, ds, cnt, m => some ⟨.ret, S, ds, [], cnt, m⟩
  | .goto l, S, ds, cnt, m => some ⟨.goto l, S, ds, [], cnt, m⟩
  | .refuse _, _, _, _, _ => none
structure CodeOk (P : Program) (f : Sub) : Prop where
  go : ∀ {N : Nat} {inR : Bool} {c : Code} {S : St} {ds : List Dec} {cnt m : Nat} {r : Fin}, f N inR c S ds cnt m = some r → (∀ p ∈ r.ps, p) →
    ∀ {F : Fence} {n : Nat} {w0 : World} {B : Nat} {O : Fr} {β : Ren} {a : Act} {W : World} {Q : Exit → Act → World → Prop}, Loose F → (inR = false → F.round = none) → R β w0 B N O m S a W →
      (∀ β' a' W', Ext β β' → R β' w0 B N O r.m r.S a' W' → Q r.out.exit' a' W') → c.wpIn F n P Q a W
structure UpOk (P : Program) (up : Up) : Prop where
  big : BigOk P up.big
  code : CodeOk P up.code
theorem entsPs_tail {ps : List Prop} : ∀ {L : List Ent}, (∀ p ∈ entsPs L ps, p) → ∀ p ∈ ps, p
  | [], h => h
  | x :: r, h => entsPs_tail (L := r) fun p hp => h p (by simp only [entsPs, List.mem_append]; exact .inr hp)
theorem range'_split {j n : Nat} (h : j ≤ n) : List.range' 0 j ++ List.range' j (n - j) = List.range' 0 n := by
  have := List.range'_append_1 (s := 0) (m := j) (n := n - j)
  rw [Nat.zero_add] at this
  rw [this]
  congr 1
  omega
theorem entsPs_mem {ps : List Prop} : ∀ {L : List Ent}, (∀ p ∈ entsPs L ps, p) → ∀ e ∈ L, ∀ p ∈ e.ps, p
  | [], _, e, he, _, _ => by simp at he
  | x :: r, h, e, he, p, hp => by
    simp only [entsPs, List.mem_append] at h
    rcases List.mem_cons.1 he with rfl | he
    · exact h p (.inl hp)
    · exact entsPs_mem (fun q hq => h q (.inr hq)) e he p hp
section scope
variable {F : Fence} {n : Nat} {P : Program}
def scopeJ (F : Fence) (n : Nat) (P : Program) (c : Code) (Q : Exit → Act → World → Prop) : Nat → Exit → Act → World → Prop
  | k, .goto l, a, w => match findLabel c l with
    | none => Q (.goto l) a w
    | some rest => match k with
      | 0 => False
      | k + 1 => rest.wpIn F n P (scopeJ F n P c Q k) a w
  | _, e, a, w => Q e a w
theorem stepR_scope {b : Frame} {a : Act} {k : List Item} {cs : List Frame} {w : World} {c : Code} : step P (lone (b.atR a (.code (.scope c) :: k)) cs w) = .next (lone (b.atR a (.code c :: .inScope c :: k)) cs w) :=
  step_lone_go (by simp [stepG, stepG.exec, Frame.atR])
theorem stepR_inScope {b : Frame} {a : Act} {k : List Item} {cs : List Frame} {w : World} {c : Code} : step P (lone (b.atR a (.inScope c :: k)) cs w) = .next (lone (b.atR a k) cs w) :=
  step_lone_go (by simp [stepG, stepG.exec, Frame.atR])
theorem wpIn_scope {c : Code} {Q : Exit → Act → World → Prop} {a : Act} {w : World} (k : Nat) (h : c.wpIn F n P (scopeJ F n P c Q k) a w) : (Code.scope c).wpIn F n P Q a w := by
  intro b kk cs hro hb hr
  have key : ∀ k (x : Code) (a : Act) (w : World), x.wpIn F n P (scopeJ F n P c Q k) a w →
      ∃ e a' w', Q e a' w' ∧ ArrivesIn (Machine.fenced P F) P (lone (b.atR a (.code x :: .inScope c :: kk)) cs w) b kk cs e a' w' := by
    intro k
    induction k with
    | zero =>
      intro x a w hx
      obtain ⟨e, a₁, w₁, hq, harr⟩ := hx b (.inScope c :: kk) cs hro hb hr
      cases e with
      | normal => exact ⟨.normal, a₁, w₁, hq, StepsIn.trans harr (.one (fenced_calm hb hr rfl) stepR_inScope)⟩
      | exit id =>
        have hx : exitTo id (.inScope c :: kk) = exitTo id kk := by simp [exitTo]
        exact ⟨.exit id, a₁, w₁, hq, fun k' hk => harr.1 k' (by rw [hx]; exact hk), fun hr' hk => harr.2 hr' (by rw [hx]; exact hk)⟩
      | goto l =>
        simp only [scopeJ] at hq
        cases hf : findLabel c l with
        | none =>
          rw [hf] at hq
          have hg : gotoIn l (.inScope c :: kk) = gotoIn l kk := by simp [gotoIn, hf]
          exact ⟨.goto l, a₁, w₁, hq, fun k' hk => harr.1 k' (by rw [hg]; exact hk), fun hr' hk => harr.2 hr' (by rw [hg]; exact hk)⟩
        | some rest => rw [hf] at hq; exact hq.elim
      | ret => exact ⟨_, a₁, w₁, hq, harr⟩
      | panic ch => exact ⟨_, a₁, w₁, hq, harr⟩
      | outgrown => exact ⟨_, a₁, w₁, hq, harr⟩
    | succ k ih =>
      intro x a w hx
      obtain ⟨e, a₁, w₁, hq, harr⟩ := hx b (.inScope c :: kk) cs hro hb hr
      cases e with
      | normal => exact ⟨.normal, a₁, w₁, hq, StepsIn.trans harr (.one (fenced_calm hb hr rfl) stepR_inScope)⟩
      | exit id =>
        have hx : exitTo id (.inScope c :: kk) = exitTo id kk := by simp [exitTo]
        exact ⟨.exit id, a₁, w₁, hq, fun k' hk => harr.1 k' (by rw [hx]; exact hk), fun hr' hk => harr.2 hr' (by rw [hx]; exact hk)⟩
      | goto l =>
        simp only [scopeJ] at hq
        cases hf : findLabel c l with
        | none =>
          rw [hf] at hq
          have hg : gotoIn l (.inScope c :: kk) = gotoIn l kk := by simp [gotoIn, hf]
          exact ⟨.goto l, a₁, w₁, hq, fun k' hk => harr.1 k' (by rw [hg]; exact hk), fun hr' hk => harr.2 hr' (by rw [hg]; exact hk)⟩
        | some rest =>
          rw [hf] at hq
          obtain ⟨e₂, a₂, w₂, hq₂, harr₂⟩ := ih rest a₁ w₁ hq
          have hg : gotoIn l (.inScope c :: kk) = some (.code rest :: .inScope c :: kk) := by simp [gotoIn, hf]
          exact ⟨e₂, a₂, w₂, hq₂, .of_steps (harr.1 _ hg) harr₂⟩
      | ret => exact ⟨_, a₁, w₁, hq, harr⟩
      | panic ch => exact ⟨_, a₁, w₁, hq, harr⟩
      | outgrown => exact ⟨_, a₁, w₁, hq, harr⟩
  obtain ⟨e, a', w', hq, harr⟩ := key k c a w h
  exact ⟨e, a', w', hq, .of_steps (.one (fenced_calm hb hr rfl) stepR_scope) harr⟩
end scope
section
variable {P : Program} {w0 : World} {B N : Nat} {O : Fr} {m : Nat} {S : St} {a : Act} {W : World} {β : Ren}
theorem R.mark (h : R β w0 B N O m S a W) : R β w0 B N O (m + 1) S { a with defers := mark W.heap.size :: a.defers } (W.alloc (.deferred (some []))) :=
  { h.below (W' := W.alloc (.deferred (some []))) ((Below.refl _ W).alloc (Nat.le_refl _) _) with
    ts := h.ts
    dfr := by
      obtain ⟨ks, h1, h2, h3, h4⟩ := h.dfr
      refine ⟨W.heap.size :: ks, by simp [h1], by simp [h2], ?_, ?_⟩
      · refine List.nodup_cons.2 ⟨fun hmem => ?_, h3⟩
        exact absurd (Array.getElem?_eq_some_iff.1 (h4 _ hmem).2.2).1 (Nat.lt_irrefl _)
      · intro k hk
        rcases List.mem_cons.1 hk with rfl | hk
        · exact ⟨h.hB, ⟨fun b hb => absurd (h.lt b _ hb) (Nat.lt_irrefl _), fun r p hp _ e => absurd (h.rlt r p hp) (by rw [e]; exact Nat.lt_irrefl _)⟩, heap_alloc_new _ _⟩
        · obtain ⟨g1, g2, g3⟩ := h4 k hk
          exact ⟨g1, g2, Below.heap_alloc' _ _ g3⟩
    size := h.size }
theorem R.newLoop (h : R β w0 B N O m S a W) {nm : Nat} {q : LoopS} {r : Loop} (hr : LoopR β q r) (hn : memN nm S.us = false) (hg : nm < gbase) :
    ∃ β', Ext β β' ∧ β' nm = some W.heap.size ∧ R β' w0 B N O m { S with ls := (nm, q) :: S.ls, us := nm :: S.us } a (W.alloc (.loop r)) := by
  obtain ⟨hm, hR⟩ := h.newObj (.loop r) hn hg
  refine ⟨_, hm, by simp, ?_⟩
  exact { hR with
    ls := fun l q' hl => by
      rw [look_cons] at hl
      by_cases e : nm = l
      · subst e
        simp only [if_true, Option.some.injEq] at hl
        subst hl
        exact ⟨W.heap.size, r, by simp, heap_alloc_new _ _, hr.mono hm⟩
      · rw [if_neg e] at hl
        exact hR.ls l q' hl
    ts := hR.ts
    bs := hR.bs
    dom := hR.dom
    rdom := hR.rdom
    rs := hR.rs
    rb := hR.rb
    ro := hR.ro
    dfr := hR.dfr }
theorem R.turnLoop (h : R β w0 B N O m S a W) {l k : Nat} {q : LoopS} {r : Loop} {q' : LoopS} {r' : Loop} (_ : look S.ls l = some q) (hk : β l = some k) (hh : W.heap[k]? = some (.loop r)) (hr' : LoopR β q' r') :
    R β w0 B N O m { S with ls := (l, q') :: S.ls } a (W.putObj k (.loop r')) := by
  have hlt : k < W.heap.size := (Array.getElem?_eq_some_iff.1 hh).1
  refine h.turnObj (bs' := S.bs) (ls' := (l, q') :: S.ls) hk (by simp) (fun j hj => World.putObj_heap_other hj) (World.putObj_heap_same hlt) rfl rfl rfl (fun _ _ hq _ => hq) ?_ ?_ ?_
  · intro b2 q2 hq hne
    rw [look_cons, if_neg (Ne.symm hne)] at hq
    exact hq
  · intro c ty hq
    obtain ⟨k2, cs, hk2, ho2, hh2⟩ := h.bs l c ty hq
    rw [hk] at hk2
    cases hk2
    rw [hh] at hh2
    cases hh2
    exact (denO_loop ho2 rfl).elim
  · intro q2 hq
    rw [look_cons, if_pos rfl] at hq
    simp only [Option.some.injEq] at hq
    subst hq
    exact ⟨r', rfl, hr'⟩
end
section
variable {P : Program} {E : Env P} {up : Up} {F : Fence} {n : Nat}
theorem readB_run {w0 : World} {B N : Nat} {O : Fr} {m : Nat} {β : Ren} {S : St} {a : Act} {W : World} {c : Operand} {b : Bool} (h : R β w0 B N O m S a W) (hb : readB S c = some b) : a.eval c = .bool b := by
  unfold readB at hb
  split at hb
  · rename_i b' rd hr
    simp only [Option.some.injEq] at hb
    subst hb
    exact rdV_run h hr
  · cases hb
theorem funOk_spec {g : Nat} (h : funOk P g = true) : ∃ fn, P.funcs[g]? = some fn ∧ fn.body.isNone = false ∧ (fn.name == "runtime.NumGoroutine") = false := by
  unfold funOk at h
  split at h
  · rename_i fn hf
    simp only [Bool.and_eq_true, Bool.not_eq_true'] at h
    exact ⟨fn, hf, by rw [← Option.not_isSome]; simp [h.1], h.2⟩
  · cases h
theorem run_callFunc_body {f : FuncId} {fn : Func} (hf : P.funcs[f]? = some fn) (hb : fn.body.isNone = false) (hn : (fn.name == "runtime.NumGoroutine") = false) (args : Array Value) (w : World) :
    (callFunc f args).run P w = .ok (.enter f args) w := by
  unfold callFunc
  simp only [Sem.run_bind, run_program, Result.andThen_ok, hf, hn, hb, Bool.false_eq_true, if_false, Sem.run_pure]
theorem rangeExec_wp (hup : UpOk P up) {N : Nat} {inR : Bool} {g : Operand} {pr : Array Tmp} {asg body : Code} {S : St} {ds : List Dec} {cnt m : Nat} {r : Fin} (he : rangeExec P up N inR g pr asg body S ds cnt m = some r) (hp : ∀ p ∈ r.ps, p)
    (hF : Loose F) (hro : inR = false → F.round = none) {w0 : World} {B : Nat} {O : Fr} {β : Ren} {a : Act} {W : World} {Q : Exit → Act → World → Prop} (h : R β w0 B N O m S a W)
    (hQ : ∀ β' a' W', Ext β β' → R β' w0 B N O r.m r.S a' W' → Q r.out.exit' a' W') : (Code.rangeFunc g pr asg body).wpIn F n P Q a W := by
  unfold rangeExec at he
  cases inR with
  | true => cases he
  | false =>
    have hround : F.round = none := hro rfl
    simp only [cond_false] at he
    split at he
    · rename_i gf caps rd hg
      have hgv := rdX_run h hg
      cases hchk : (memN cnt S.us || !(Nat.blt cnt gbase && funOk P gf)) with
      | true => rw [hchk] at he; cases he
      | false =>
        rw [hchk] at he
        simp only [cond_false] at he
        simp only [Bool.or_eq_false_iff, Bool.not_eq_false', Bool.and_eq_true] at hchk
        obtain ⟨hmem, hblt, hfun⟩ := hchk
        obtain ⟨fn, hfn, hfb, hfname⟩ := funOk_spec hfun
        split at he
        · rename_i x S2 ds2 ps2 c2 hb
          split at he
          · rename_i q2 hq2
            refine wpIn_rangeFunc ?_
            intro fnid hfnid
            rw [hround]
            have hR1 := h.mark
            obtain ⟨β1, hE1, hβ1, hR2⟩ := hR1.newLoop (nm := cnt) (q := ⟨.ready, none, S.ts, N, pr.toList, asg, body⟩)
              (r := { state := .ready, pending := none, fn := fnid, tmps := a.tmps, params := pr, assign := asg, body := body, defers := W.heap.size })
              ⟨rfl, rfl, by simp, rfl, rfl, h.size, h.ts⟩ hmem (by simpa [Nat.blt_eq] using hblt)
            rw [World.size_alloc] at hβ1
            obtain ⟨cv, hcv, hgv'⟩ : ∃ cv, adrs β caps = some cv ∧ a.eval g = .func (.func gf) #[] cv.toArray := by
              simp only [den] at hgv
              split at hgv
              · rename_i l hl; simp only [Option.some.injEq] at hgv; exact ⟨l, hl, hgv.symm⟩
              · cases hgv
            have hden : den β1 (.fn gf caps) = some (.func (.func gf) #[] cv.toArray) := by
              simp only [den, adrs_mono hE1 hcv]
            have hent := run_enterLoop_outer (P := P) (w := W) fnid a.tmps pr asg body
            generalize hW1 : (W.alloc (.deferred (some []))).alloc (.loop { state := .ready, pending := none, fn := fnid, tmps := a.tmps, params := pr, assign := asg, body := body, defers := W.heap.size }) = W1 at hent hR2
            refine ⟨W.heap.size + 1, [Sx.mark W.heap.size], W1, { target := .fn (.func gf) cv.toArray, args := #[.func (.yield (W.heap.size + 1)) #[] #[]] }, W1, gf, #[.func (.yield (W.heap.size + 1)) #[] #[]] ++ cv.toArray, W1, hent, ?_, ?_, ?_, ?_, ?_⟩
            · simp only [resolve, hgv']
              simp [go_sem]
            · intro f' hf'; rw [hF.fn]; trivial
            · exact run_callFunc_body hfn hfb hfname _ _
            · intro hd; rw [hF.depth] at hd; exact absurd hd (by simp)
            · have hcall := hup.big.go (F := F) (n := n) hb ?_ hF hR2 (o := ⟨none, .move (.const undef), 0, "", #[], none⟩) hden (argvs := [.func (.yield (W.heap.size + 1)) #[] #[]]) (by simp [dens, den, hβ1])
                (K := fun a'' w'' => ∃ jump w₄, (Instr.endLoop (W.heap.size + 1)).run P w'' = .ok jump w₄ ∧ (match jump with
                  | none => Q .normal a'' w₄
                  | some c => c.wpIn F n P Q a'' w₄)) (Q := Q) ?_ (fun _ _ _ hpn => by cases hpn)
              · have hrun : (do let d ← Deferred.ofValue (.func (.func gf) #[] cv.toArray) ([.func (.yield (W.heap.size + 1)) #[] #[]] : List Value).toArray; invoke d.target d.args : Sem Next).run P W1 =
                    .ok (.enter gf (#[.func (.yield (W.heap.size + 1)) #[] #[]] ++ cv.toArray)) W1 := by
                  simp only [Deferred.ofValue, Sem.run_bind, Sem.run_pure, Result.andThen_ok, Array.empty_append, invoke]
                  exact run_callFunc_body hfn hfb hfname _ _
                rw [hrun, Oper.uponIn_enter] at hcall
                refine hcall.2.mono ?_
                intro e w'' he'
                cases e with
                | returned v => exact he'
                | panicked ch => exact he'
                | outgrown => exact he'
              · intro p hp'
                refine hp p ?_
                split at he
                · cases he
                · split at he <;> first | (simp only [Option.some.injEq] at he; subst he; exact hp') | cases he
              · intro β2 v W2 _ hE2 hR3 _
                obtain ⟨k2, r2, hk2, hh2, hr2⟩ := hR3.ls cnt q2 hq2
                have : k2 = W.heap.size + 1 := by
                  have := hE2 _ _ hβ1
                  rw [hk2] at this
                  simpa using this
                subst this
                have hbusy : q2.st ≠ .busy := by
                  intro hst
                  rw [hst] at he
                  cases he
                have hS3 := hR3.turnLoop (q' := { q2 with st := .exhausted }) (r' := { r2 with state := .exhausted }) hq2 hk2 hh2 ⟨rfl, hr2.pend, hr2.params, hr2.asg, hr2.body, hr2.size, hr2.ts⟩
                have hend := run_endLoop (P := P) hh2 (by rw [hr2.st]; exact hbusy)
                generalize W2.putObj (W.heap.size + 1) (.loop { r2 with state := .exhausted }) = W3 at hend hS3
                refine ⟨r2.pending, W3, hend, ?_⟩
                rw [hr2.pend]
                have hEE := hE1.trans hE2
                split at he
                · rename_i hst; exact absurd hst hbusy
                · split at he
                  · rename_i hpend
                    simp only [Option.some.injEq] at he; subst he
                    rw [hpend]
                    exact hQ _ _ _ hEE hS3
                  · rename_i hpend
                    simp only [Option.some.injEq] at he; subst he
                    rw [hpend]
                    exact wpIn_ret (hQ _ _ _ hEE hS3)
                  · rename_i id hpend
                    simp only [Option.some.injEq] at he; subst he
                    rw [hpend]
                    exact wpIn_exit (hQ _ _ _ hEE hS3)
                  · rename_i l hpend
                    simp only [Option.some.injEq] at he; subst he
                    rw [hpend]
                    exact wpIn_goto (hQ _ _ _ hEE hS3)
                  · cases he
          · cases he
        · cases he
    · cases he
theorem handled_wp {N : Nat} {inR : Bool} {c : Code} {S : St} {ds : List Dec} {cnt m : Nat} {alt : Option Fin} {r : Fin} (he : handled E N c S ds cnt m alt = some r) (hp : ∀ p ∈ r.ps, p)
    (hF : Loose F) {w0 : World} {B : Nat} {O : Fr} {β : Ren} {a : Act} {W : World} {Q : Exit → Act → World → Prop} (h : R β w0 B N O m S a W)
    (hQ : ∀ β' a' W', Ext β β' → R β' w0 B N O r.m r.S a' W' → Q r.out.exit' a' W') (halt : alt = some r → c.wpIn F n P Q a W) (_ : inR = inR) : c.wpIn F n P Q a W := by
  unfold handled at he
  split at he
  · split at he
    · rename_i hd _
      cases hb : Nat.beq hd.N N with
      | false => rw [hb] at he; cases he
      | true =>
        rw [hb] at he
        simp only [cond_true] at he
        split at he
        · rename_i o S' ps hrun
          simp only [Option.some.injEq] at he; subst he
          have hc : hd.c = c := hp _ (by simp)
          have hN : hd.N = N := Nat.eq_of_beq_eq_true hb
          subst hc
          subst hN
          exact hd.sound hF hrun (fun p hp' => hp p (by simp [hp'])) h hQ
        · cases he
    · cases he
  · exact halt he
theorem exec_wp (hm : P.follows .mixedOrders = true) (hup : UpOk P up) (hF : Loose F) {N : Nat} {inR : Bool} (hro : inR = false → F.round = none) : ∀ (c : Code) {S : St} {ds : List Dec} {cnt m : Nat} {r : Fin}, exec P E up N inR c S ds cnt m = some r → (∀ p ∈ r.ps, p) →
    ∀ {w0 : World} {B : Nat} {O : Fr} {β : Ren} {a : Act} {W : World} {Q : Exit → Act → World → Prop}, R β w0 B N O m S a W → (∀ β' a' W', Ext β β' → R β' w0 B N O r.m r.S a' W' → Q r.out.exit' a' W') → c.wpIn F n P Q a W := by
  intro c
  induction c with
  | skip =>
    intro S ds cnt m r he hp w0 B O β a W Q h hQ
    simp only [exec, Option.some.injEq] at he; subst he
    exact wpIn_skip (hQ β a W (.refl _) h)
  | label l =>
    intro S ds cnt m r he hp w0 B O β a W Q h hQ
    simp only [exec, Option.some.injEq] at he; subst he
    exact wpIn_label (hQ β a W (.refl _) h)
  | exit id =>
    intro S ds cnt m r he hp w0 B O β a W Q h hQ
    simp only [exec, Option.some.injEq] at he; subst he
    exact wpIn_exit (hQ β a W (.refl _) h)
  | ret =>
    intro S ds cnt m r he hp w0 B O β a W Q h hQ
    simp only [exec, Option.some.injEq] at he; subst he
    exact wpIn_ret (hQ β a W (.refl _) h)
  | goto l =>
    intro S ds cnt m r he hp w0 B O β a W Q h hQ
    simp only [exec, Option.some.injEq] at he; subst he
    exact wpIn_goto (hQ β a W (.refl _) h)
  | region id ops draw =>
    intro S ds cnt m r he hp w0 B O β a W Q h hQ
    simp only [exec] at he
    split at he
    · rename_i L S' ds' cnt' hr
      obtain ⟨hv, hL⟩ := runOps_spec hup.big (by simp) hr
      have hL : L.map (·.i) = List.range' 0 ops.toList.length := hL
      split at he
      · simp only [Option.some.injEq] at he; subst he
        have := valid_wp (Q := Q) (n := n) (rest := []) hF (fun β' a' W' hE hR => hQ β' a' W' hE hR) h hv (entsPs_mem hp)
        rw [List.append_nil, hL, Array.length_toList] at this
        refine wpIn_region ?_
        rw [List.range_eq_range']
        exact this
      · cases hd : drawOk ops L with
        | false => rw [hd] at he; cases he
        | true =>
          rw [hd] at he
          simp only [cond_true, Option.some.injEq] at he; subst he
          exact draw_wp hm hF (fun β' a' W' hE hR => hQ β' a' W' hE hR) h hv (by simpa using hL) (entsPs_mem hp) hd
    · rename_i L S' ds' cnt' q hr
      obtain ⟨hv, h1, h2, hL, hpan⟩ := runOps_spec hup.big (by simp) hr
      have hqs : q.i < ops.size := by simpa using h2
      have h0 : q.i - 0 = q.i := Nat.sub_zero _
      rw [h0] at hL
      split at he
      · simp only [Option.some.injEq] at he; subst he
        have := valid_wp (Q := Q) (n := n) (rest := List.range' q.i (ops.size - q.i)) hF (fun β' a' W' hE hR => by
          obtain ⟨k, hk⟩ : ∃ k, ops.size - q.i = k + 1 := ⟨ops.size - q.i - 1, by omega⟩
          rw [hk, List.range'_succ, wpOpsIn_cons]
          exact (hpan (entsPs_tail hp)).full.go hF hR fun β2 W2 hE2 hR2 => hQ β2 a' W2 (hE.trans hE2) hR2) h hv (entsPs_mem hp)
        refine wpIn_region ?_
        rw [List.range_eq_range']
        rw [hL, range'_split (Nat.le_of_lt hqs)] at this
        exact this
      · cases hd : drawPOk ops L q.i with
        | false =>
          rw [hd] at he
          simp only [cond_false] at he
          split at he
          · rename_i L2 hl2
            obtain ⟨S2, hv2, hL2, hnb⟩ := looseL_spec (A := ancs ops.toList []) rfl hl2
            cases hd2 : loosePOk ops cnt L L2 q.i with
            | false => rw [hd2] at he; cases he
            | true =>
              rw [hd2] at he
              simp only [cond_true, Option.some.injEq] at he; subst he
              exact draw_wpL hm hF hqs (hpan (entsPs_tail hp)) (fun β' a' W' hE hR => hQ β' a' W' hE hR) h hv hL hv2 (by simpa using hL2) hnb (entsPs_mem hp) hd2
          · cases he
        | true =>
          rw [hd] at he
          simp only [cond_true, Option.some.injEq] at he; subst he
          exact draw_wpP hm hF hqs (hpan (entsPs_tail hp)).full (fun β' a' W' hE hR => hQ β' a' W' hE hR) h hv hL (entsPs_mem hp) hd
    · cases he
  | seq x y ihx ihy =>
    intro S ds cnt m r he hp w0 B O β a W Q h hQ
    simp only [exec] at he
    split at he
    · rename_i S1 ds1 ps1 c1 m1 hx
      split at he
      · rename_i o S2 ds2 ps2 c2 m2 hy
        simp only [Option.some.injEq] at he; subst he
        refine wpIn_seq (ihx hx (fun p hp' => hp p (by simp [hp'])) h fun β' a' W' hE hR => ?_)
        exact ihy hy (fun p hp' => hp p (by simp [hp'])) hR fun β2 a2 W2 hE2 hR2 => hQ β2 a2 W2 (hE.trans hE2) hR2
      · cases he
    · rename_i hno
      refine wpIn_seq (ihx he hp h fun β' a' W' hE hR => ?_)
      have := hQ β' a' W' hE hR
      obtain ⟨o, S1, ds1, ps1, c1, m1⟩ := r
      cases o with
      | normal => exact absurd he (hno _ _ _ _ _)
      | exit id => exact this
      | ret => exact this
      | goto l => exact this
      | panic v => exact this
  | cond c x y ihx ihy =>
    intro S ds cnt m r he hp w0 B O β a W Q h hQ
    simp only [exec] at he
    refine handled_wp (inR := inR) he hp hF h hQ (fun he => ?_) rfl
    split at he
    · rename_i b hb
      have hc := readB_run h hb
      split at he
      · split at he
        · rename_i o S1 ds1 ps1 c1 m1 hx
          simp only [Option.some.injEq] at he; subst he
          have hbt : b = true := hp _ (by simp)
          subst hbt
          exact wpIn_cond hc (ihx hx (fun p hp' => hp p (by simp [hp'])) h hQ)
        · cases he
      · split at he
        · rename_i o S1 ds1 ps1 c1 m1 hx
          simp only [Option.some.injEq] at he; subst he
          have hbt : b = false := hp _ (by simp)
          subst hbt
          exact wpIn_cond hc (ihy hx (fun p hp' => hp p (by simp [hp'])) h hQ)
        · cases he
      · cases b with
        | true => exact wpIn_cond hc (ihx he hp h hQ)
        | false => exact wpIn_cond hc (ihy he hp h hQ)
    · cases he
  | block id c ih =>
    intro S ds cnt m r he hp w0 B O β a W Q h hQ
    simp only [exec] at he
    split at he
    · rename_i id' S1 ds1 ps1 c1 m1 hx
      cases hb : Nat.beq id' id with
      | true =>
        rw [hb] at he
        simp only [cond_true, Option.some.injEq] at he; subst he
        have := Nat.eq_of_beq_eq_true hb
        subst this
        refine wpIn_block (ih hx hp h fun β' a' W' hE hR => ?_)
        simp only [Out.exit', Exit.inBlock, if_true]
        exact hQ β' a' W' hE hR
      | false =>
        rw [hb] at he
        simp only [cond_false, Option.some.injEq] at he; subst he
        have := Nat.ne_of_beq_eq_false hb
        refine wpIn_block (ih hx hp h fun β' a' W' hE hR => ?_)
        simp only [Out.exit', Exit.inBlock, if_neg this]
        exact hQ β' a' W' hE hR
    · rename_i hno
      refine wpIn_block (ih he hp h fun β' a' W' hE hR => ?_)
      have := hQ β' a' W' hE hR
      obtain ⟨o, S1, ds1, ps1, c1, m1⟩ := r
      cases o with
      | normal => exact this
      | exit id => exact absurd he (hno _ _ _ _ _ _)
      | ret => exact this
      | goto l => exact this
      | panic v => exact this
  | loop c ih =>
    intro S ds cnt m r he hp w0 B O β a W Q h hQ
    simp only [exec] at he
    refine handled_wp (inR := inR) he hp hF h hQ (fun he => ?_) rfl
    refine wpIn_loop_rounds E.fuel ?_
    have key : ∀ k {S : St} {ds : List Dec} {cnt m : Nat} {r : Fin}, iter (fun S ds cnt m => exec P E up N inR c S ds cnt m) k S ds cnt m = some r → (∀ p ∈ r.ps, p) → ∀ {β : Ren} {a : Act} {W : World}, R β w0 B N O m S a W →
        (∀ β' a' W', Ext β β' → R β' w0 B N O r.m r.S a' W' → Q r.out.exit' a' W') → Code.roundsIn F n P c Q k a W := by
      intro k
      induction k with
      | zero => intro S ds cnt m r he; cases he
      | succ k ihk =>
        intro S ds cnt m r he hp β a W h hQ
        simp only [iter] at he
        rw [roundsIn_succ]
        split at he
        · rename_i S1 ds1 ps1 c1 m1 hx
          split at he
          · rename_i o S2 ds2 ps2 c2 m2 hy
            simp only [Option.some.injEq] at he; subst he
            refine ih hx (fun p hp' => hp p (by simp [hp'])) h fun β' a' W' hE hR => ?_
            exact ihk hy (fun p hp' => hp p (by simp [hp'])) hR fun β2 a2 W2 hE2 hR2 => hQ β2 a2 W2 (hE.trans hE2) hR2
          · cases he
        · rename_i hno
          refine ih he hp h fun β' a' W' hE hR => ?_
          have := hQ β' a' W' hE hR
          obtain ⟨o, S1, ds1, ps1, c1, m1⟩ := r
          cases o with
          | normal => exact absurd he (hno _ _ _ _ _)
          | exit id => exact this
          | ret => exact this
          | goto l => exact this
          | panic v => exact this
    exact key E.fuel he hp h hQ
  | scope c ih =>
    intro S ds cnt m r he hp w0 B O β a W Q h hQ
    simp only [exec] at he
    refine handled_wp (inR := inR) he hp hF h hQ (fun he => ?_) rfl
    refine wpIn_scope E.fuel ?_
    have key : ∀ k {x r : Fin}, jumps (fun c S ds cnt m => up.code N inR c S ds cnt m) c k x = some r → (∀ p ∈ r.ps, p) → ∀ {β0 β : Ren} {a : Act} {W : World}, Ext β0 β → R β w0 B N O x.m x.S a W →
        (∀ β' a' W', Ext β0 β' → R β' w0 B N O r.m r.S a' W' → Q r.out.exit' a' W') → scopeJ F n P c Q k x.out.exit' a W := by
      intro k
      induction k with
      | zero =>
        intro x r hj hp β0 β a W hE h hQ
        obtain ⟨o, S1, ds1, ps1, c1, m1⟩ := x
        cases o with
        | goto l =>
          simp only [jumps] at hj
          simp only [Out.exit', scopeJ]
          cases hf : findLabel c l with
          | none =>
            rw [hf] at hj
            simp only [Option.some.injEq] at hj; subst hj
            exact hQ β a W hE h
          | some rest => rw [hf] at hj; cases hj
        | _ =>
          simp only [jumps, Option.some.injEq] at hj; subst hj
          exact hQ β a W hE h
      | succ k ihk =>
        intro x r hj hp β0 β a W hE h hQ
        obtain ⟨o, S1, ds1, ps1, c1, m1⟩ := x
        cases o with
        | goto l =>
          simp only [jumps] at hj
          simp only [Out.exit', scopeJ]
          cases hf : findLabel c l with
          | none =>
            rw [hf] at hj
            simp only [Option.some.injEq] at hj; subst hj
            exact hQ β a W hE h
          | some rest =>
            rw [hf] at hj
            simp only at hj
            split at hj
            · rename_i r1 hr1
              split at hj
              · rename_i o2 S2 ds2 ps2 c2 m2 hr2
                simp only [Option.some.injEq] at hj; subst hj
                have hpm : ∀ {k : Nat} {x r : Fin}, jumps (fun c S ds cnt m => up.code N inR c S ds cnt m) c k x = some r → ∀ p ∈ x.ps, p ∈ r.ps := by
                  intro k x r hj p hp
                  obtain ⟨o, S1, ds1, ps1, c1, m1⟩ := x
                  cases o with
                  | goto l =>
                    unfold jumps at hj
                    split at hj
                    · simp only [Option.some.injEq] at hj; subst hj; exact hp
                    · split at hj
                      · cases hj
                      · split at hj
                        · split at hj
                          · simp only [Option.some.injEq] at hj; subst hj; simp only [List.mem_append]; exact .inl hp
                          · cases hj
                        · cases hj
                  | _ => simp only [jumps, Option.some.injEq] at hj; subst hj; exact hp
                refine hup.code.go hr1 (fun p hp' => hp p (by simp only [List.mem_append]; exact .inr (hpm hr2 p hp'))) hF hro h fun β' a' W' hE' hR => ?_
                exact ihk hr2 (fun p hp' => hp p (by simp only [List.mem_append]; exact .inr hp')) (hE.trans hE') hR hQ
              · cases hj
            · cases hj
        | _ =>
          simp only [jumps, Option.some.injEq] at hj; subst hj
          exact hQ β a W hE h
    split at he
    · rename_i r1 hr1
      have hpm : ∀ {k : Nat} {x r : Fin}, jumps (fun c S ds cnt m => up.code N inR c S ds cnt m) c k x = some r → ∀ p ∈ x.ps, p ∈ r.ps := by
        intro k x r hj p hp
        obtain ⟨o, S1, ds1, ps1, c1, m1⟩ := x
        cases o with
        | goto l =>
          unfold jumps at hj
          split at hj
          · simp only [Option.some.injEq] at hj; subst hj; exact hp
          · split at hj
            · cases hj
            · split at hj
              · split at hj
                · simp only [Option.some.injEq] at hj; subst hj; simp only [List.mem_append]; exact .inl hp
                · cases hj
              · cases hj
        | _ => simp only [jumps, Option.some.injEq] at hj; subst hj; exact hp
      exact ih hr1 (fun p hp' => hp p (hpm he p hp')) h fun β' a' W' hE hR => key E.fuel he hp hE hR hQ
    · cases he
  | rangeFunc f ps x y ih1 ih2 =>
    intro S ds cnt m r he hp w0 B O β a W Q h hQ
    simp only [exec] at he
    refine handled_wp (inR := inR) he hp hF h hQ (fun he => ?_) rfl
    exact rangeExec_wp hup he hp hF hro h hQ
  | refuse why => intro S ds cnt m r he; cases he
end
end Go.Sx
